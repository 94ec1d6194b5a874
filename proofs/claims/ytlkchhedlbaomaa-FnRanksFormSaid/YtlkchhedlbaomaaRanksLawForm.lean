/- The walk of FnRanksForm. -/
import Derived.Test.YtlkchhedlbaomaaRanksLawTree
import Derived.Test.YtlkchhedlbaomaaRanksAppend
import Derived.Deep.RegionHeld3
import Derived.Deep.DeepCutAuto
namespace Go.Proofs.Ytlkchhedlbaomaa
open Go.RowKit
set_option linter.unusedVariables false

def Lit32 (W : World) (b : Nat) : Prop := W.heap[b]? = some (.cells #[.int .i64 2, .int .i64 0] 3 (0, 0))
def Lit33 (W : World) (b b32 : Nat) : Prop := W.heap[b]? = some (.cells #[.slice (some ⟨b32, 0, none⟩) 2 2] 27 (0, 0))
def Lit27 (W : World) (b : Nat) : Prop := W.heap[b]? = some (.cells #[] 27 (0, 0))
theorem Lit32.new (W : World) (n : Nat) (hn : W.heap.size = n) : Lit32 (W.alloc (.cells #[.int .i64 2, .int .i64 0] 3)) n := by subst hn; exact heap_alloc_new W _
theorem Lit33.new (W : World) (n b : Nat) (hn : W.heap.size = n) : Lit33 (W.alloc (.cells #[.slice (some ⟨b, 0, none⟩) 2 2] 27)) n b := by subst hn; exact heap_alloc_new W _
theorem Lit27.new (W : World) (n : Nat) (hn : W.heap.size = n) : Lit27 (W.alloc (.cells #[] 27)) n := by subst hn; exact heap_alloc_new W _
theorem Lit32.alloc {W : World} {b : Nat} (h : Lit32 W b) (o : Obj) : Lit32 (W.alloc o) b := (Below.heap_alloc W o b (heap_lt h)).trans h
theorem Lit33.alloc {W : World} {b c : Nat} (h : Lit33 W b c) (o : Obj) : Lit33 (W.alloc o) b c := (Below.heap_alloc W o b (heap_lt h)).trans h
theorem Lit27.alloc {W : World} {b : Nat} (h : Lit27 W b) (o : Obj) : Lit27 (W.alloc o) b := (Below.heap_alloc W o b (heap_lt h)).trans h
theorem Lit32.grown {W W' : World} {b : Nat} {row : Option Nat} (h : Lit32 W b) (hg : W.grownBy W' row) (hne : some b ≠ row) : Lit32 W' b := (hg.block b (heap_lt h) hne).trans h
theorem Lit33.grown {W W' : World} {b c : Nat} {row : Option Nat} (h : Lit33 W b c) (hg : W.grownBy W' row) (hne : some b ≠ row) : Lit33 W' b c := (hg.block b (heap_lt h) hne).trans h
theorem Lit32.drew {W : World} {b : Nat} (h : Lit32 W b) : Lit32 W.drew b := h
theorem Lit33.drew {W : World} {b c : Nat} (h : Lit33 W b c) : Lit33 W.drew b c := h
theorem Lit27.drew {W : World} {b : Nat} (h : Lit27 W b) : Lit27 W.drew b := h
theorem Lit27.own {W : World} {b lo : Nat} (h : Lit27 W b) (hlo : lo ≤ b) : W.ownsRow lo 27 1 (.slice (some ⟨b, 0, none⟩) 0 0) 0 [] :=
  ⟨rfl, .inr ⟨b, 0, #[], rfl, hlo, h, Nat.le_refl _, Nat.zero_le _, rfl, rfl⟩⟩
theorem Lit32.ints {W : World} {b : Nat} (h : Lit32 W b) : IntsTy W 0 (.slice (some ⟨b, 0, none⟩) 2 2) [2, 0] := by
  refine ⟨⟨_, _, rfl, Nat.le_refl _, by unfold maxLen; omega, .inr ⟨b, 0, rfl, heap_lt h, fun i hi => ?_⟩⟩, fun _ _ => Nat.zero_le _, fun b' hb' => ?_⟩
  · rw [Nat.zero_add, cell_of_row _ _ _ #[.int .i64 2, .int .i64 0] 3 (0, 0) h]
    match i, hi with
    | 0, _ => rfl
    | 1, _ => rfl
  · simp [Value.ownBlock] at hb'; subst hb'; exact ⟨_, _, h⟩
theorem Lit33.src {W : World} {b c : Nat} (h : Lit33 W b c) : SliceAt W (.slice (some ⟨b, 0, none⟩) 1 1) 1 (fun _ => .slice (some ⟨c, 0, none⟩) 2 2) := by
  refine ⟨_, _, rfl, Nat.le_refl _, by unfold maxLen; omega, .inr ⟨b, 0, rfl, heap_lt h, fun i hi => ?_⟩⟩
  obtain rfl : i = 0 := by omega
  rw [Nat.zero_add, cell_of_row _ _ _ #[.slice (some ⟨c, 0, none⟩) 2 2] 27 (0, 0) h]
  rfl
theorem form_rows {W4 WB w7 : World} {lo rn b32 : Nat} {v7 : Value} {row : List (List Int)} {f : Nat → Value} {row' : Option Nat} (hl : row.length = rn)
    (hel : ∀ i, i < row.length → IntsAt W4 (f i) (row.getD i [])) (hown : w7.ownsRow lo 27 1 v7 (rn + 1) ((List.range rn).map f ++ (List.range 1).map fun _ => .slice (some ⟨b32, 0, none⟩) 2 2))
    (h32 : Lit32 WB b32) (hg : WB.grownBy w7 row') (hrow : ∀ g, row' = some g → ∀ cur mk, WB.heap[g]? ≠ some (.cells cur 3 mk)) (hb : Below W4.heap.size W4 w7) : RowsAt w7 v7 (row ++ [[2, 0]]) := by
  refine ⟨_, owns_slice (us := (List.range rn).map f ++ (List.range 1).map fun _ => .slice (some ⟨b32, 0, none⟩) 2 2) (by simp [hl]) (by rw [List.length_append, hl]; exact hown), fun i hi => ?_⟩
  have hi' : i < rn + 1 := by rw [List.length_append, hl] at hi; exact hi
  rw [append_getD row [2, 0] [] i (by omega), hl]
  by_cases e : i = rn
  · subst e
    rw [if_pos rfl]
    have e1 : ((List.range i).map f ++ (List.range 1).map fun _ => Value.slice (some ⟨b32, 0, none⟩) 2 2).getD i undef = .slice (some ⟨b32, 0, none⟩) 2 2 := by
      rw [List.getD_eq_getElem?_getD, List.getElem?_append_right (by simp)]; simp [List.range_succ]
    rw [e1]
    exact (h32.ints.grown hg hrow).1
  · rw [if_neg e]
    have e1 : ((List.range rn).map f ++ (List.range 1).map fun _ => Value.slice (some ⟨b32, 0, none⟩) 2 2).getD i undef = f i := by
      rw [List.getD_eq_getElem?_getD, List.getElem?_append_left (by simp; omega), List.getElem?_map, List.getElem?_range (by omega)]; rfl
    rw [e1]
    exact (hel i (by omega)).below hb
/-- three lists of ways in a slice of their own -/
theorem grid_lit3 (w : World) (v0 v1 v2 : Value) (p0 p1 p2 : List (List Int)) (h0 : RowsAt w v0 p0) (h1 : RowsAt w v1 p1) (h2 : RowsAt w v2 p2) :
    GridAt (w.alloc (.cells #[v0, v1, v2] 26)) (.slice (some ⟨w.heap.size, 0, none⟩) 3 3) [p0, p1, p2] ∧ Below w.heap.size w (w.alloc (.cells #[v0, v1, v2] 26)) := by
  have hb : Below w.heap.size w (w.alloc (.cells #[v0, v1, v2] 26)) := (Below.refl _ _).alloc (Nat.le_refl _) _
  have hl := World.ownsRow_lit (e := 26) (base := w.heap.size) (size := 1) w #[v0, v1, v2] 3 (Nat.le_refl _) (by unfold maxLen; omega) rfl
  have hs := ownsRow_slice (vs := [v0, v1, v2]) rfl hl
  refine ⟨⟨_, hs, fun i hi => ?_⟩, hb⟩
  match i, hi with
  | 0, _ => exact h0.below hb
  | 1, _ => exact h1.below hb
  | 2, _ => exact h2.below hb
theorem form_b (w : World) (b c : Nat) (v1 v2 : Value) (p1 p2 : List (List Int)) (hbc : (b = w.heap.size ∧ c = w.heap.size + 1) ∨ (b = w.heap.size + 1 ∧ c = w.heap.size)) (h1 : RowsAt w v1 p1) (h2 : RowsAt w v2 p2) :
    GridAt ((((w.alloc (.cells #[.int .i64 1, .int .i64 0] 3)).alloc (.cells #[.int .i64 1, .int .i64 0] 3)).alloc (.cells #[.slice (some ⟨b, 0, none⟩) 2 2, .slice (some ⟨c, 0, none⟩) 2 2] 27)).alloc (.cells #[.slice (some ⟨w.heap.size + 1 + 1, 0, none⟩) 2 2, v1, v2] 26)) (.slice (some ⟨w.heap.size + 1 + 1 + 1, 0, none⟩) 3 3) [[[1, 0], [1, 0]], p1, p2] := by
  have i1 := (ints_lit w w.heap.size 0 rfl (Nat.zero_le _) [1, 0] (by simp)).alloc (.cells #[.int .i64 1, .int .i64 0] 3)
  have i2 := ints_lit (w.alloc (.cells #[.int .i64 1, .int .i64 0] 3)) (w.heap.size + 1) 0 (by simp) (Nat.zero_le _) [1, 0] (by simp)
  have hr := rows_lit ((w.alloc (.cells #[.int .i64 1, .int .i64 0] 3)).alloc (.cells #[.int .i64 1, .int .i64 0] 3)) (w.heap.size + 1 + 1) 0 (by simp) (Nat.zero_le _) [.slice (some ⟨b, 0, none⟩) 2 2, .slice (some ⟨c, 0, none⟩) 2 2] [[1, 0], [1, 0]] rfl (by simp) (fun i hi => by
    rcases hbc with ⟨rfl, rfl⟩ | ⟨rfl, rfl⟩
    · match i, hi with
      | 0, _ => exact i1
      | 1, _ => exact i2
    · match i, hi with
      | 0, _ => exact i2
      | 1, _ => exact i1)
  have hb : Below w.heap.size w ((((w.alloc (.cells #[.int .i64 1, .int .i64 0] 3)).alloc (.cells #[.int .i64 1, .int .i64 0] 3)).alloc (.cells #[.slice (some ⟨b, 0, none⟩) 2 2, .slice (some ⟨c, 0, none⟩) 2 2] 27))) := by repeat (first | exact Below.refl _ _ | assumption | refine Below.drew ?_ | refine belowDrewN ?_ _ | refine Below.alloc ?_ (by first | exact Nat.le_refl _ | omega | (simp; done) | (simp; omega)) _ | refine Below.setCell ?_ (by first | exact Nat.le_refl _ | omega | (simp; done) | (simp; omega)) _)
  have := (grid_lit3 _ _ v1 v2 _ p1 p2 hr.rows (h1.below hb) (h2.below hb)).1
  simpa using this
theorem GridAt.take2 {w : World} {a : Option Addr} {cap : Nat} {l : List (List (List Int))} (h : GridAt w (.slice a 3 cap) l) : GridAt w (.slice a 2 cap) (l.take 2) := by
  obtain ⟨hn, _, _⟩ := h.len
  obtain ⟨f, h1, h2⟩ := h
  rw [← hn] at h1
  have g := SliceAt.front h1 (k := 2) (by omega)
  have hl : (l.take 2).length = 2 := by rw [List.length_take]; omega
  refine ⟨f, by rw [hl]; exact g, fun i hi => ?_⟩
  rw [hl] at hi
  have := h2 i (by omega)
  have e : (l.take 2).getD i [] = l.getD i [] := by simp [hi]
  rw [e]; exact this
theorem form_c (w : World) (v1 v2 : Value) (p1 p2 : List (List Int)) (h1 : RowsAt w v1 p1) (h2 : RowsAt w v2 p2) :
    GridAt (((w.alloc (.cells #[.int .i64 1, .int .i64 2] 3)).alloc (.cells #[.slice (some ⟨w.heap.size, 0, none⟩) 2 2] 27)).alloc (.cells #[.slice (some ⟨w.heap.size + 1, 0, none⟩) 1 1, v1, v2] 26)) (.slice (some ⟨w.heap.size + 1 + 1, 0, none⟩) 3 3) [[[1, 2]], p1, p2] := by
  have i1 := ints_lit w w.heap.size 0 rfl (Nat.zero_le _) [1, 2] (by simp)
  have hr := rows_lit (w.alloc (.cells #[.int .i64 1, .int .i64 2] 3)) (w.heap.size + 1) 0 (by simp) (Nat.zero_le _) [.slice (some ⟨w.heap.size, 0, none⟩) 2 2] [[1, 2]] rfl (by simp) (fun i hi => by
    match i, hi with
    | 0, _ => exact i1)
  have hb : Below w.heap.size w ((w.alloc (.cells #[.int .i64 1, .int .i64 2] 3)).alloc (.cells #[.slice (some ⟨w.heap.size, 0, none⟩) 2 2] 27)) := by repeat (first | exact Below.refl _ _ | assumption | refine Below.drew ?_ | refine belowDrewN ?_ _ | refine Below.alloc ?_ (by first | exact Nat.le_refl _ | omega | (simp; done) | (simp; omega)) _ | refine Below.setCell ?_ (by first | exact Nat.le_refl _ | omega | (simp; done) | (simp; omega)) _)
  have := (grid_lit3 _ _ v1 v2 _ p1 p2 hr.rows (h1.below hb) (h2.below hb)).1
  simpa using this

set_option maxRecDepth 100000 in
set_option maxHeartbeats 8000000 in
theorem ranksForm_walk (a : Option Addr) (len cap : Nat) (zs : List Int) (w : World) (h : IsRow .u8 w a len cap zs) :
    Calls Try.prog 3 #[.slice a len cap] w fun e w' => e = .returned (.bool true) ∧ Below w.heap.size w w' := by
  obtain ⟨hm, hc⟩ := h.bounds
  have hc' := hc
  unfold maxLen at hc'
  have H := Lib.hid h
  clear h
  obtain ⟨i0, hi, hz0, hz1, hz2⟩ := info_parts info_r2P
  go_enter Try.func3, Try.ntmps3
  by_cases hl : 1048576 < len
  · go_wp2_with fail
    go_ret
    exact ⟨rfl, Below.refl _ _⟩
  · go_wp2_with fail
    refine (drawOk_any _ _ _ zs _ H.out).mono ?_
    rintro e w1 ⟨v, r, rfl, ht, hb⟩
    obtain ⟨va, vc, e', hvc, hvm⟩ := ht.form
    subst e'
    have G := Lib.hid ht
    have BB := Lib.hid hb
    clear ht hb
    obtain ⟨N, hN⟩ : ∃ N, ranksOk r = N := ⟨_, rfl⟩
    have himpl := implRanksOk_any _ r w1 G.out
    have hspec : ∀ W, Below w1.heap.size w1 W → Calls Try.prog 21 #[.slice va r.length vc] W fun e w' => e = .returned (.bool N) ∧ Below W.heap.size W w' := fun W hW => by
      rw [← hN]; exact drew_below (specRanksOk_any _ r W (G.out.below hW))
    rw [hN] at himpl
    have HIM := Lib.hid himpl
    have HSP := Lib.hid hspec
    have HN := Lib.hid hN
    clear himpl hspec hN
    go_wp2_with fail
    refine (HIM.out).mono ?_
    rintro e w2 ⟨rfl, hb⟩
    have B1 := Lib.hid hb
    have BB := Lib.hid (BB.out.trans (hb.mono BB.out.size))
    clear hb
    cases N
    · have hne : (false != false) = false := rfl
      go_wp2_with fail
      refine (HSP.out _ B1.out).mono ?_
      rintro e w3 ⟨rfl, hb⟩
      have BB := Lib.hid (BB.out.trans (hb.mono BB.out.size))
      have B1 := Lib.hid (B1.out.trans (hb.mono B1.out.size))
      clear hb
      go_wp2_with fail
      refine (HSP.out _ B1.out).mono ?_
      rintro e w4 ⟨rfl, hb⟩
      have BB := Lib.hid (BB.out.trans (hb.mono BB.out.size))
      go_wp2_with fail
      go_ret
      exact ⟨rfl, BB.out⟩
    · have hr3 := ranksOk_len HN.out
      have HR3 := Lib.hid hr3
      rw [hr3] at hvc G HSP ⊢
      clear hr3
      go_wp2_with fail
      refine (HSP.out _ B1.out).mono ?_
      rintro e w4 ⟨rfl, hb⟩
      have BB := Lib.hid (BB.out.trans (hb.mono BB.out.size))
      have B1 := Lib.hid (B1.out.trans (hb.mono B1.out.size))
      have G4 := Lib.hid (G.out.below B1.out)
      clear hb HSP HIM G B1
      obtain ⟨gb, goff, v0, rfl, hgb, hx0, hr0⟩ := G4.out.get 0 (by omega)
      obtain ⟨b', off', v1, e, _, hx1, hr1⟩ := G4.out.get 1 (by omega)
      simp only [Option.some.injEq, Addr.mk.injEq] at e
      obtain ⟨rfl, rfl, _⟩ := e
      obtain ⟨b', off', v2, e, _, hx2, hr2⟩ := G4.out.get 2 (by omega)
      simp only [Option.some.injEq, Addr.mk.injEq] at e
      obtain ⟨rfl, rfl, _⟩ := e
      have hre : r = [r.getD 0 [], r.getD 1 [], r.getD 2 []] := by
        have := HR3.out
        match r, this with
        | [a, b, c], _ => rfl
      obtain ⟨hf1, hf2, hf3, hf4⟩ := ranks_form HN.out
      have hok2 : ranksOk (r.take 2) = false := hf4
      obtain ⟨ra, rc, rfl, hrc, hrm⟩ := hr0.form
      obtain ⟨xa1, xc1, rfl, _, _⟩ := hr1.form
      obtain ⟨xa2, xc2, rfl, _, _⟩ := hr2.form
      have hn3 := short3_of_ok HN.out 0
      obtain ⟨r0, he0⟩ : ∃ x, r.getD 0 [] = x := ⟨_, rfl⟩
      obtain ⟨r1, he1⟩ : ∃ x, r.getD 1 [] = x := ⟨_, rfl⟩
      obtain ⟨r2, he2⟩ : ∃ x, r.getD 2 [] = x := ⟨_, rfl⟩
      rw [he0] at hr0 hx0 hn3 hf1 hrc
      rw [he1] at hr1 hx1 hf1 hf2 hf3
      rw [he2] at hr2 hx2 hf1 hf2 hf3
      obtain ⟨rn, hrn⟩ : ∃ rn, r0.length = rn := ⟨_, rfl⟩
      obtain ⟨rn1, hrn1⟩ : ∃ rn, r1.length = rn := ⟨_, rfl⟩
      obtain ⟨rn2, hrn2⟩ : ∃ rn, r2.length = rn := ⟨_, rfl⟩
      obtain ⟨f, hsl, hel⟩ := hr0
      rw [hrn] at hsl hx0 hn3 hrc
      rw [hrn1] at hr1 hx1
      rw [hrn2] at hr2 hx2
      rw [Nat.add_zero] at hx0
      have hone : ∀ j, j < rn → (f j).oneCell' = true := fun j hj => by
        obtain ⟨q1, q2, e, _⟩ := (hel j (by rw [hrn]; exact hj)).form
        rw [e]; rfl
      obtain ⟨lo, hlo⟩ : ∃ lo, w4.heap.size = lo := ⟨_, rfl⟩
      have hgbl : gb < w4.heap.size := hgb
      have HSL := Lib.hid hsl
      have HEL := Lib.hid hel
      have HONE := Lib.hid hone
      have HRN := Lib.hid hrn
      have HR1 := Lib.hid hr1
      have HR2 := Lib.hid hr2
      have HF1 := Lib.hid hf1
      have HF2 := Lib.hid hf2
      have HF3 := Lib.hid hf3
      have HF4 := Lib.hid hf4
      have HLO := Lib.hid hlo
      have DD := Lib.hid (Drew.refl w4)
      have HX : Hid (∀ W, Below w4.heap.size w4 W → W.cell? ⟨gb, goff, none⟩ = some (.slice ra rn rc) ∧ W.cell? ⟨gb, goff + 1, none⟩ = some (.slice xa1 rn1 xc1) ∧ W.cell? ⟨gb, goff + 2, none⟩ = some (.slice xa2 rn2 xc2)) := Lib.hid fun W hW =>
        ⟨(hW.cell (p := ⟨gb, goff, none⟩) hgb).trans hx0, (hW.cell (p := ⟨gb, goff + 1, none⟩) hgb).trans hx1, (hW.cell (p := ⟨gb, goff + 2, none⟩) hgb).trans hx2⟩
      clear hsl hel hone hrn hr1 hr2 hf1 hf2 hf3 hf4 hok2 hlo hre he0 he1 he2 hrn1 hrn2
      go_upto_region 7 with fail
      go_cut [5] (fun s5 wx => ∃ gb5 : Nat, s5 = .slice (some ⟨gb5, 0, none⟩) 3 3 ∧ Hid (GridAt wx s5 [r0 ++ [[2, 0]], r1, r2]) ∧ Hid (Below w4.heap.size w4 wx))
      case first =>
        go_region_held3 (fun w' => w'.cell? ⟨gb, goff, none⟩ = some (.slice ra rn rc) ∧ w'.cell? ⟨gb, goff + 1, none⟩ = some (.slice xa1 rn1 xc1) ∧ w'.cell? ⟨gb, goff + 2, none⟩ = some (.slice xa2 rn2 xc2)) (exact HX.out _ (by repeat (first | exact Below.refl _ _ | assumption | refine Below.drew ?_ | refine belowDrewN ?_ _ | refine Below.alloc ?_ (by first | exact Nat.le_refl _ | omega | (simp; done) | (simp; omega)) _ | refine Below.setCell ?_ (by first | exact Nat.le_refl _ | omega | (simp; done) | (simp; omega)) _))) (first
          | (refine step_append_src rfl (.tmp 27) (.tmp 30) 26 rfl w4.heap.size 27 i0 (.slice none 0 0) 24 Try.underlying26 hi hz0 hz1 hz2 rfl (.slice (some ⟨w4.heap.size, 0, none⟩) 0 0) 0 [] rfl (Lit27.own ((Lit27.new w4 _ rfl).drew) (by omega)) (.slice ra rn rc) rn f rfl (HSL.out.below (by repeat (first | exact Below.refl _ _ | assumption | refine Below.drew ?_ | refine belowDrewN ?_ _ | refine Below.alloc ?_ (by first | exact Nat.le_refl _ | omega | (simp; done) | (simp; omega)) _ | refine Below.setCell ?_ (by first | exact Nat.le_refl _ | omega | (simp; done) | (simp; omega)) _))) HONE.out (by unfold maxLen; omega) (by omega) (by first | exact Nat.le_refl _ | omega | (simp; done) | (simp; omega)) ?_; intro v5 w5 hown5 hgrow5; have hb5 : Below w4.heap.size w4 w5 := Below.grown (by repeat (first | exact Below.refl _ _ | assumption | refine Below.drew ?_ | refine belowDrewN ?_ _ | refine Below.alloc ?_ (by first | exact Nat.le_refl _ | omega | (simp; done) | (simp; omega)) _ | refine Below.setCell ?_ (by first | exact Nat.le_refl _ | omega | (simp; done) | (simp; omega)) _)) hgrow5 (by first | exact Nat.le_refl _ | omega | (simp; done) | (simp; omega)) (by intro g hg; simp [Value.ownBlock] at hg; omega); obtain ⟨hc5, hf5⟩ := bcell hb5; have hs5 := hb5.size; rw [Nat.zero_add, List.nil_append] at hown5; obtain ⟨sa, sc, e5, _, _⟩ := owns_form hown5; have OWN5 := Lib.hid hown5; clear hown5 hgrow5; subst e5)
          | (refine step_append_src rfl (.tmp 27) (.tmp 30) 26 rfl w4.heap.size 27 i0 (.slice none 0 0) 24 Try.underlying26 hi hz0 hz1 hz2 rfl (.slice (some ⟨w4.heap.size, 0, none⟩) 0 0) 0 [] rfl (Lit27.own (((Lit27.new w4 _ rfl).alloc _).drew) (by omega)) (.slice ra rn rc) rn f rfl (HSL.out.below (by repeat (first | exact Below.refl _ _ | assumption | refine Below.drew ?_ | refine belowDrewN ?_ _ | refine Below.alloc ?_ (by first | exact Nat.le_refl _ | omega | (simp; done) | (simp; omega)) _ | refine Below.setCell ?_ (by first | exact Nat.le_refl _ | omega | (simp; done) | (simp; omega)) _))) HONE.out (by unfold maxLen; omega) (by omega) (by first | exact Nat.le_refl _ | omega | (simp; done) | (simp; omega)) ?_; intro v5 w5 hown5 hgrow5; have hb5 : Below w4.heap.size w4 w5 := Below.grown (by repeat (first | exact Below.refl _ _ | assumption | refine Below.drew ?_ | refine belowDrewN ?_ _ | refine Below.alloc ?_ (by first | exact Nat.le_refl _ | omega | (simp; done) | (simp; omega)) _ | refine Below.setCell ?_ (by first | exact Nat.le_refl _ | omega | (simp; done) | (simp; omega)) _)) hgrow5 (by first | exact Nat.le_refl _ | omega | (simp; done) | (simp; omega)) (by intro g hg; simp [Value.ownBlock] at hg; omega); obtain ⟨hc5, hf5⟩ := bcell hb5; have hs5 := hb5.size; rw [Nat.zero_add, List.nil_append] at hown5; obtain ⟨sa, sc, e5, _, _⟩ := owns_form hown5; have OWN5 := Lib.hid hown5; have Q32 : Hid (Lit32 w5 (w4.heap.size + 1)) := Lib.hid (Lit32.grown ((Lit32.new (w4.alloc _) _ (by simp)).drew) hgrow5 (by (simp [Value.ownBlock]) <;> omega)); clear hown5 hgrow5; subst e5)
          | (refine step_append_src rfl (.tmp 27) (.tmp 30) 26 rfl w4.heap.size 27 i0 (.slice none 0 0) 24 Try.underlying26 hi hz0 hz1 hz2 rfl (.slice (some ⟨w4.heap.size, 0, none⟩) 0 0) 0 [] rfl (Lit27.own ((((Lit27.new w4 _ rfl).alloc _).alloc _).drew) (by omega)) (.slice ra rn rc) rn f rfl (HSL.out.below (by repeat (first | exact Below.refl _ _ | assumption | refine Below.drew ?_ | refine belowDrewN ?_ _ | refine Below.alloc ?_ (by first | exact Nat.le_refl _ | omega | (simp; done) | (simp; omega)) _ | refine Below.setCell ?_ (by first | exact Nat.le_refl _ | omega | (simp; done) | (simp; omega)) _))) HONE.out (by unfold maxLen; omega) (by omega) (by first | exact Nat.le_refl _ | omega | (simp; done) | (simp; omega)) ?_; intro v5 w5 hown5 hgrow5; have hb5 : Below w4.heap.size w4 w5 := Below.grown (by repeat (first | exact Below.refl _ _ | assumption | refine Below.drew ?_ | refine belowDrewN ?_ _ | refine Below.alloc ?_ (by first | exact Nat.le_refl _ | omega | (simp; done) | (simp; omega)) _ | refine Below.setCell ?_ (by first | exact Nat.le_refl _ | omega | (simp; done) | (simp; omega)) _)) hgrow5 (by first | exact Nat.le_refl _ | omega | (simp; done) | (simp; omega)) (by intro g hg; simp [Value.ownBlock] at hg; omega); obtain ⟨hc5, hf5⟩ := bcell hb5; have hs5 := hb5.size; rw [Nat.zero_add, List.nil_append] at hown5; obtain ⟨sa, sc, e5, _, _⟩ := owns_form hown5; have OWN5 := Lib.hid hown5; have Q32 : Hid (Lit32 w5 (w4.heap.size + 1)) := Lib.hid (Lit32.grown (((Lit32.new (w4.alloc _) _ (by simp)).alloc _).drew) hgrow5 (by (simp [Value.ownBlock]) <;> omega)); have Q33 : Hid (Lit33 w5 (w4.heap.size + 1 + 1) (w4.heap.size + 1)) := Lib.hid (Lit33.grown ((Lit33.new ((w4.alloc _).alloc _) _ _ (by simp)).drew) hgrow5 (by (simp [Value.ownBlock]) <;> omega)); clear hown5 hgrow5; subst e5)
          | (refine step_append_src rfl (.tmp 27) (.tmp 30) 26 rfl w4.heap.size 27 i0 (.slice none 0 0) 24 Try.underlying26 hi hz0 hz1 hz2 rfl (.slice (some ⟨w4.heap.size + 1, 0, none⟩) 0 0) 0 [] rfl (Lit27.own ((Lit27.new (w4.alloc _) _ (by simp)).drew) (by omega)) (.slice ra rn rc) rn f rfl (HSL.out.below (by repeat (first | exact Below.refl _ _ | assumption | refine Below.drew ?_ | refine belowDrewN ?_ _ | refine Below.alloc ?_ (by first | exact Nat.le_refl _ | omega | (simp; done) | (simp; omega)) _ | refine Below.setCell ?_ (by first | exact Nat.le_refl _ | omega | (simp; done) | (simp; omega)) _))) HONE.out (by unfold maxLen; omega) (by omega) (by first | exact Nat.le_refl _ | omega | (simp; done) | (simp; omega)) ?_; intro v5 w5 hown5 hgrow5; have hb5 : Below w4.heap.size w4 w5 := Below.grown (by repeat (first | exact Below.refl _ _ | assumption | refine Below.drew ?_ | refine belowDrewN ?_ _ | refine Below.alloc ?_ (by first | exact Nat.le_refl _ | omega | (simp; done) | (simp; omega)) _ | refine Below.setCell ?_ (by first | exact Nat.le_refl _ | omega | (simp; done) | (simp; omega)) _)) hgrow5 (by first | exact Nat.le_refl _ | omega | (simp; done) | (simp; omega)) (by intro g hg; simp [Value.ownBlock] at hg; omega); obtain ⟨hc5, hf5⟩ := bcell hb5; have hs5 := hb5.size; rw [Nat.zero_add, List.nil_append] at hown5; obtain ⟨sa, sc, e5, _, _⟩ := owns_form hown5; have OWN5 := Lib.hid hown5; have Q32 : Hid (Lit32 w5 (w4.heap.size)) := Lib.hid (Lit32.grown (((Lit32.new w4 _ rfl).alloc _).drew) hgrow5 (by (simp [Value.ownBlock]) <;> omega)); clear hown5 hgrow5; subst e5)
          | (refine step_append_src rfl (.tmp 27) (.tmp 30) 26 rfl w4.heap.size 27 i0 (.slice none 0 0) 24 Try.underlying26 hi hz0 hz1 hz2 rfl (.slice (some ⟨w4.heap.size + 1, 0, none⟩) 0 0) 0 [] rfl (Lit27.own (((Lit27.new (w4.alloc _) _ (by simp)).alloc _).drew) (by omega)) (.slice ra rn rc) rn f rfl (HSL.out.below (by repeat (first | exact Below.refl _ _ | assumption | refine Below.drew ?_ | refine belowDrewN ?_ _ | refine Below.alloc ?_ (by first | exact Nat.le_refl _ | omega | (simp; done) | (simp; omega)) _ | refine Below.setCell ?_ (by first | exact Nat.le_refl _ | omega | (simp; done) | (simp; omega)) _))) HONE.out (by unfold maxLen; omega) (by omega) (by first | exact Nat.le_refl _ | omega | (simp; done) | (simp; omega)) ?_; intro v5 w5 hown5 hgrow5; have hb5 : Below w4.heap.size w4 w5 := Below.grown (by repeat (first | exact Below.refl _ _ | assumption | refine Below.drew ?_ | refine belowDrewN ?_ _ | refine Below.alloc ?_ (by first | exact Nat.le_refl _ | omega | (simp; done) | (simp; omega)) _ | refine Below.setCell ?_ (by first | exact Nat.le_refl _ | omega | (simp; done) | (simp; omega)) _)) hgrow5 (by first | exact Nat.le_refl _ | omega | (simp; done) | (simp; omega)) (by intro g hg; simp [Value.ownBlock] at hg; omega); obtain ⟨hc5, hf5⟩ := bcell hb5; have hs5 := hb5.size; rw [Nat.zero_add, List.nil_append] at hown5; obtain ⟨sa, sc, e5, _, _⟩ := owns_form hown5; have OWN5 := Lib.hid hown5; have Q32 : Hid (Lit32 w5 (w4.heap.size)) := Lib.hid (Lit32.grown ((((Lit32.new w4 _ rfl).alloc _).alloc _).drew) hgrow5 (by (simp [Value.ownBlock]) <;> omega)); have Q33 : Hid (Lit33 w5 (w4.heap.size + 1 + 1) (w4.heap.size)) := Lib.hid (Lit33.grown ((Lit33.new ((w4.alloc _).alloc _) _ _ (by simp)).drew) hgrow5 (by (simp [Value.ownBlock]) <;> omega)); clear hown5 hgrow5; subst e5)
          | (refine step_append_src rfl (.tmp 27) (.tmp 30) 26 rfl w4.heap.size 27 i0 (.slice none 0 0) 24 Try.underlying26 hi hz0 hz1 hz2 rfl (.slice (some ⟨w4.heap.size + 1 + 1, 0, none⟩) 0 0) 0 [] rfl (Lit27.own ((Lit27.new ((w4.alloc _).alloc _) _ (by simp)).drew) (by omega)) (.slice ra rn rc) rn f rfl (HSL.out.below (by repeat (first | exact Below.refl _ _ | assumption | refine Below.drew ?_ | refine belowDrewN ?_ _ | refine Below.alloc ?_ (by first | exact Nat.le_refl _ | omega | (simp; done) | (simp; omega)) _ | refine Below.setCell ?_ (by first | exact Nat.le_refl _ | omega | (simp; done) | (simp; omega)) _))) HONE.out (by unfold maxLen; omega) (by omega) (by first | exact Nat.le_refl _ | omega | (simp; done) | (simp; omega)) ?_; intro v5 w5 hown5 hgrow5; have hb5 : Below w4.heap.size w4 w5 := Below.grown (by repeat (first | exact Below.refl _ _ | assumption | refine Below.drew ?_ | refine belowDrewN ?_ _ | refine Below.alloc ?_ (by first | exact Nat.le_refl _ | omega | (simp; done) | (simp; omega)) _ | refine Below.setCell ?_ (by first | exact Nat.le_refl _ | omega | (simp; done) | (simp; omega)) _)) hgrow5 (by first | exact Nat.le_refl _ | omega | (simp; done) | (simp; omega)) (by intro g hg; simp [Value.ownBlock] at hg; omega); obtain ⟨hc5, hf5⟩ := bcell hb5; have hs5 := hb5.size; rw [Nat.zero_add, List.nil_append] at hown5; obtain ⟨sa, sc, e5, _, _⟩ := owns_form hown5; have OWN5 := Lib.hid hown5; have Q32 : Hid (Lit32 w5 (w4.heap.size)) := Lib.hid (Lit32.grown ((((Lit32.new w4 _ rfl).alloc _).alloc _).drew) hgrow5 (by (simp [Value.ownBlock]) <;> omega)); have Q33 : Hid (Lit33 w5 (w4.heap.size + 1) (w4.heap.size)) := Lib.hid (Lit33.grown (((Lit33.new (w4.alloc _) _ _ (by simp)).alloc _).drew) hgrow5 (by (simp [Value.ownBlock]) <;> omega)); clear hown5 hgrow5; subst e5)
          | (refine step_append_src rfl (.tmp 31) (.tmp 33) 26 rfl w4.heap.size 27 i0 (.slice none 0 0) 24 Try.underlying26 hi hz0 hz1 hz2 rfl (.slice sa rn sc) rn ((List.range rn).map f) rfl (OWN5.out) _ 1 (fun _ => _) rfl (Lit33.src (Q33.out)) (by intro j hj; rfl) (by unfold maxLen; omega) (by omega) (by first | exact Nat.le_refl _ | omega | (simp; done) | (simp; omega)) ?_; intro v7 w7 hown7 hgrow7; have hb7 : Below w4.heap.size w4 w7 := Below.grown (by repeat (first | exact Below.refl _ _ | assumption | refine Below.drew ?_ | refine belowDrewN ?_ _ | refine Below.alloc ?_ (by first | exact Nat.le_refl _ | omega | (simp; done) | (simp; omega)) _ | refine Below.setCell ?_ (by first | exact Nat.le_refl _ | omega | (simp; done) | (simp; omega)) _)) hgrow7 (by first | exact Nat.le_refl _ | omega | (simp; done) | (simp; omega)) (by intro g hg; exact (World.ownsRow.lt OWN5.out g hg).1); have HROWS := Lib.hid (form_rows HRN.out HEL.out hown7 (Q32.out) hgrow7 (owns_type (OWN5.out) (by decide)) hb7); obtain ⟨hc7, hf7⟩ := bcell hb7; have hs7 := hb7.size; obtain ⟨ta, tc, e7, _, _⟩ := owns_form hown7; clear hown7 hgrow7; subst e7)
          | (refine step_append_src rfl (.tmp 31) (.tmp 33) 26 rfl w4.heap.size 27 i0 (.slice none 0 0) 24 Try.underlying26 hi hz0 hz1 hz2 rfl (.slice sa rn sc) rn ((List.range rn).map f) rfl (World.ownsRow.alloc OWN5.out _) _ 1 (fun _ => _) rfl (Lit33.src (Lit33.new w5 _ _ rfl)) (by intro j hj; rfl) (by unfold maxLen; omega) (by omega) (by first | exact Nat.le_refl _ | omega | (simp; done) | (simp; omega)) ?_; intro v7 w7 hown7 hgrow7; have hb7 : Below w4.heap.size w4 w7 := Below.grown (by repeat (first | exact Below.refl _ _ | assumption | refine Below.drew ?_ | refine belowDrewN ?_ _ | refine Below.alloc ?_ (by first | exact Nat.le_refl _ | omega | (simp; done) | (simp; omega)) _ | refine Below.setCell ?_ (by first | exact Nat.le_refl _ | omega | (simp; done) | (simp; omega)) _)) hgrow7 (by first | exact Nat.le_refl _ | omega | (simp; done) | (simp; omega)) (by intro g hg; exact (World.ownsRow.lt OWN5.out g hg).1); have HROWS := Lib.hid (form_rows HRN.out HEL.out hown7 (Q32.out.alloc _) hgrow7 (owns_type (World.ownsRow.alloc OWN5.out _) (by decide)) hb7); obtain ⟨hc7, hf7⟩ := bcell hb7; have hs7 := hb7.size; obtain ⟨ta, tc, e7, _, _⟩ := owns_form hown7; clear hown7 hgrow7; subst e7)
          | (refine step_append_src rfl (.tmp 31) (.tmp 33) 26 rfl w4.heap.size 27 i0 (.slice none 0 0) 24 Try.underlying26 hi hz0 hz1 hz2 rfl (.slice sa rn sc) rn ((List.range rn).map f) rfl (World.ownsRow.alloc (World.ownsRow.alloc OWN5.out _) _) _ 1 (fun _ => _) rfl (Lit33.src (Lit33.new (w5.alloc _) _ _ (by simp))) (by intro j hj; rfl) (by unfold maxLen; omega) (by omega) (by first | exact Nat.le_refl _ | omega | (simp; done) | (simp; omega)) ?_; intro v7 w7 hown7 hgrow7; have hb7 : Below w4.heap.size w4 w7 := Below.grown (by repeat (first | exact Below.refl _ _ | assumption | refine Below.drew ?_ | refine belowDrewN ?_ _ | refine Below.alloc ?_ (by first | exact Nat.le_refl _ | omega | (simp; done) | (simp; omega)) _ | refine Below.setCell ?_ (by first | exact Nat.le_refl _ | omega | (simp; done) | (simp; omega)) _)) hgrow7 (by first | exact Nat.le_refl _ | omega | (simp; done) | (simp; omega)) (by intro g hg; exact (World.ownsRow.lt OWN5.out g hg).1); have HROWS := Lib.hid (form_rows HRN.out HEL.out hown7 ((Lit32.new w5 _ rfl).alloc _) hgrow7 (owns_type (World.ownsRow.alloc (World.ownsRow.alloc OWN5.out _) _) (by decide)) hb7); obtain ⟨hc7, hf7⟩ := bcell hb7; have hs7 := hb7.size; obtain ⟨ta, tc, e7, _, _⟩ := owns_form hown7; clear hown7 hgrow7; subst e7))
        all_goals
          go_wp2_with fail
          go_meet
          exact ⟨w7.heap.size, rfl, Lib.hid (grid_lit3 w7 _ _ _ _ _ _ HROWS.out (HR1.out.below hb7) (HR2.out.below hb7)).1, Lib.hid (hb7.trans ((grid_lit3 w7 _ _ _ _ _ _ HROWS.out (HR1.out.below hb7) (HR2.out.below hb7)).2.mono hb7.size))⟩
      case rest =>
        obtain ⟨gb5, rfl, HA, HB5⟩ := hcut
        have hs5 := HB5.out.size
        obtain ⟨q0, q1, q2⟩ := HX.out _ HB5.out
        have HR1 := Lib.hid (HR1.out.below HB5.out)
        have HR2 := Lib.hid (HR2.out.below HB5.out)
        have hgbc : gb < wc.heap.size := Nat.lt_of_lt_of_le hgbl hs5
        have HX5 : Hid (∀ W, Below wc.heap.size wc W → W.cell? ⟨gb, goff + 1, none⟩ = some (.slice xa1 rn1 xc1) ∧ W.cell? ⟨gb, goff + 2, none⟩ = some (.slice xa2 rn2 xc2)) := Lib.hid fun W hW => ⟨(hW.cell (p := ⟨gb, goff + 1, none⟩) hgbc).trans q1, (hW.cell (p := ⟨gb, goff + 2, none⟩) hgbc).trans q2⟩
        clear hx0 hx1 hx2
        go_upto_region 8 with fail
        go_cut [6] (fun s6 wx => ∃ b : Nat, s6 = .slice (some ⟨b, 0, none⟩) 3 3 ∧ Hid (GridAt wx s6 [[[1, 0], [1, 0]], r1, r2]) ∧ Hid (Below wc.heap.size wc wx))
        case first =>
          go_region_held3 (fun w' => w'.cell? ⟨gb, goff + 1, none⟩ = some (.slice xa1 rn1 xc1) ∧ w'.cell? ⟨gb, goff + 2, none⟩ = some (.slice xa2 rn2 xc2)) (exact HX5.out _ (by repeat (first | exact Below.refl _ _ | assumption | refine Below.drew ?_ | refine belowDrewN ?_ _ | refine Below.alloc ?_ (by first | exact Nat.le_refl _ | omega | (simp; done) | (simp; omega)) _ | refine Below.setCell ?_ (by first | exact Nat.le_refl _ | omega | (simp; done) | (simp; omega)) _))) (fail)
          all_goals
            go_wp2_with fail
            go_meet
            exact ⟨_, rfl, Lib.hid ((form_b wc _ _ _ _ _ _ (by omega) HR1.out HR2.out).drew ⟨1, rfl⟩), Lib.hid (by repeat (first | exact Below.refl _ _ | assumption | refine Below.drew ?_ | refine belowDrewN ?_ _ | refine Below.alloc ?_ (by first | exact Nat.le_refl _ | omega | (simp; done) | (simp; omega)) _ | refine Below.setCell ?_ (by first | exact Nat.le_refl _ | omega | (simp; done) | (simp; omega)) _))⟩
        case rest =>
          obtain ⟨gb6, rfl, HC, HB6⟩ := hcut
          have hs6 := HB6.out.size
          clear q0 q1 q2
          obtain ⟨q1, q2⟩ := HX5.out _ HB6.out
          have HR1 := Lib.hid (HR1.out.below HB6.out)
          have HR2 := Lib.hid (HR2.out.below HB6.out)
          have hgbc2 : gb < wc.heap.size := Nat.lt_of_lt_of_le hgbc hs6
          have HX6 : Hid (∀ W, Below wc.heap.size wc W → W.cell? ⟨gb, goff + 1, none⟩ = some (.slice xa1 rn1 xc1) ∧ W.cell? ⟨gb, goff + 2, none⟩ = some (.slice xa2 rn2 xc2)) := Lib.hid fun W hW => ⟨(hW.cell (p := ⟨gb, goff + 1, none⟩) hgbc2).trans q1, (hW.cell (p := ⟨gb, goff + 2, none⟩) hgbc2).trans q2⟩
          go_upto_region 9 with fail
          go_cut [7] (fun s7 wx => ∃ b : Nat, s7 = .slice (some ⟨b, 0, none⟩) 3 3 ∧ Hid (GridAt wx s7 [[[1, 2]], r1, r2]) ∧ Hid (Below wc.heap.size wc wx))
          case first =>
            go_region_held3 (fun w' => w'.cell? ⟨gb, goff + 1, none⟩ = some (.slice xa1 rn1 xc1) ∧ w'.cell? ⟨gb, goff + 2, none⟩ = some (.slice xa2 rn2 xc2)) (exact HX6.out _ (by repeat (first | exact Below.refl _ _ | assumption | refine Below.drew ?_ | refine belowDrewN ?_ _ | refine Below.alloc ?_ (by first | exact Nat.le_refl _ | omega | (simp; done) | (simp; omega)) _ | refine Below.setCell ?_ (by first | exact Nat.le_refl _ | omega | (simp; done) | (simp; omega)) _))) (fail)
            all_goals
              go_wp2_with fail
              go_meet
              exact ⟨_, rfl, Lib.hid ((form_c wc _ _ _ _ HR1.out HR2.out).drew ⟨1, rfl⟩), Lib.hid (by repeat (first | exact Below.refl _ _ | assumption | refine Below.drew ?_ | refine belowDrewN ?_ _ | refine Below.alloc ?_ (by first | exact Nat.le_refl _ | omega | (simp; done) | (simp; omega)) _ | refine Below.setCell ?_ (by first | exact Nat.le_refl _ | omega | (simp; done) | (simp; omega)) _))⟩
          case rest =>
            obtain ⟨gb7, rfl, HDD, HB7⟩ := hcut
            have hA := HA.out.below (HB6.out.trans (HB7.out.mono HB6.out.size))
            have hC := HC.out.below HB7.out
            have hT := (G4.out.below ((HB5.out.trans (HB6.out.mono HB5.out.size)).trans (HB7.out.mono (Nat.le_trans hs5 hs6)))).take2
            have BB9 := Lib.hid (BB.out.trans (((HB5.out.trans (HB6.out.mono HB5.out.size)).trans (HB7.out.mono (Nat.le_trans hs5 hs6))).mono BB.out.size))
            have hk : ∀ (W' W : World) (v : Value) (g : List (List (List Int))), GridAt W v g → ranksOk g = false → Below W.heap.size W W' → Calls Try.prog 20 #[v] W' fun e w' => e = .returned (.bool false) ∧ Below W'.heap.size W' w' := fun W' W v g hg ho hb => by
              have := implRanksOk_any v g W' (hg.below hb); rw [ho] at this; exact this
            have c1 := fun W' => hk W' _ _ _ hA HF1.out
            have c2 := fun W' => hk W' _ _ _ hC HF2.out
            have c3 := fun W' => hk W' _ _ _ HDD.out HF3.out
            have c4 := fun W' => hk W' _ _ _ hT HF4.out
            have C1 := Lib.hid c1
            have C2 := Lib.hid c2
            have C3 := Lib.hid c3
            have C4 := Lib.hid c4
            clear c1 c2 c3 c4 hA hC hT hk
            go_wp2_with fail
            refine (C1.out _ (Below.refl _ _)).mono ?_
            rintro e w10 ⟨rfl, hb⟩
            have B10 := Lib.hid hb
            clear hb
            go_wp2_with fail
            refine (C2.out _ B10.out).mono ?_
            rintro e w11 ⟨rfl, hb⟩
            have B10 := Lib.hid (B10.out.trans (hb.mono B10.out.size))
            clear hb
            go_wp2_with fail
            refine (C3.out _ B10.out).mono ?_
            rintro e w12 ⟨rfl, hb⟩
            have B10 := Lib.hid (B10.out.trans (hb.mono B10.out.size))
            clear hb
            go_wp2_with fail
            refine (C4.out _ B10.out).mono ?_
            rintro e w13 ⟨rfl, hb⟩
            have B10 := Lib.hid (B10.out.trans (hb.mono B10.out.size))
            clear hb
            go_wp2_with fail
            go_ret
            exact ⟨rfl, BB9.out.trans (B10.out.mono BB9.out.size)⟩
end Go.Proofs.Ytlkchhedlbaomaa
