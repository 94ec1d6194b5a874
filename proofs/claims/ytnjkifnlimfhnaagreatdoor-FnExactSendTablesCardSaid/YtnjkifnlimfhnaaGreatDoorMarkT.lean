/- The laws' marks of rows, of homes and of tables of one's own; what stays. -/
import Derived.Test.YtnjkifnlimfhnaaGreatDoorSendT
import Derived.Test.YtnjkifnlimfhnaaGreatDoorIntSS
import Derived.Test.YtnjkifnlimfhnaaGreatDoorHomsCopy
import Derived.Deep.LoopGhost
namespace Go.Proofs.YtnjkifnlimfhnaaGreatDoor
open Go.RowKit
set_option linter.unusedVariables false
set_option maxRecDepth 100000

/-- nothing but blocks from lo to hi has changed -/
structure KeptOut (lo hi : Nat) (w w' : World) : Prop where
  os : w'.os = w.os
  tape : w'.tape = w.tape
  output : w'.output = w.output
  size : w'.heap.size = w.heap.size
  out : ∀ b : Nat, b < lo ∨ hi ≤ b → w'.heap[b]? = w.heap[b]?
theorem KeptOut.refl (lo hi : Nat) (w : World) : KeptOut lo hi w w := ⟨rfl, rfl, rfl, rfl, fun _ _ => rfl⟩
theorem KeptOut.trans {lo hi : Nat} {a b c : World} (h : KeptOut lo hi a b) (g : KeptOut lo hi b c) : KeptOut lo hi a c :=
  ⟨g.os.trans h.os, g.tape.trans h.tape, g.output.trans h.output, g.size.trans h.size, fun x hx => (g.out x hx).trans (h.out x hx)⟩
theorem KeptOut.below {lo hi B : Nat} {w w' : World} (h : KeptOut lo hi w w') (hB : B ≤ lo) : Below B w w' :=
  ⟨h.os, h.tape, h.output, Nat.le_of_eq h.size.symm, fun i hi => h.out i (.inl (by omega))⟩
theorem KeptOut.set {lo hi g i : Nat} {w : World} {u : Value} (hlo : lo ≤ g) (hhi : g < hi) : KeptOut lo hi w (w.setCell ⟨g, i, none⟩ u) :=
  ⟨rfl, rfl, rfl, by simp [World.setCell], fun b hb => Below.heap_setCell _ _ _ _ (by intro e; simp at e; omega)⟩
theorem Marked.keptOut {lo hi : Nat} {w w' : World} (h : Marked lo hi w w') : KeptOut lo hi w w' := ⟨h.os, h.tape, h.output, h.size, h.out⟩
theorem owns_out {w w' : World} {B lo hi n sz : Nat} {T : TypeId} {v : Value} {xs : List Value} (h : w.ownsRow B T sz v n xs) (hm : KeptOut lo hi w w') (hB : hi ≤ B) : w'.ownsRow B T sz v n xs := by
  refine ⟨h.1, ?_⟩
  rcases h.2 with h' | ⟨g, cap, cur, h1, h2, h3, h4⟩
  · exact .inl h'
  · exact .inr ⟨g, cap, cur, h1, h2, (hm.out g (.inr (by omega))).trans h3, h4⟩
theorem TabsX.out {w w' : World} {B lo hi : Nat} {v : Value} {ll : List (List Ent)} (h : TabsX w B v ll) (hm : KeptOut lo hi w w') (hB : hi ≤ B) : TabsX w' B v ll := by
  obtain ⟨vs, h1, h2, h3, h4⟩ := h
  exact ⟨vs, h1, owns_out h2 hm hB, fun i hi => by
    obtain ⟨xs, a1, a2⟩ := h3 i hi
    exact ⟨xs, owns_out a1 hm hB, a2⟩, h4⟩
theorem HomNew.out {w w' : World} {B lo hi : Nat} {v : Value} {l : List Ent} (h : HomNew w B v l) (hm : KeptOut lo hi w w') (hB : hi ≤ B) : HomNew w' B v l := by
  obtain ⟨xs, h1, h2⟩ := h
  exact ⟨xs, owns_out h1 hm hB, h2⟩
/-! marks of rows of numbers -/
def RowsHas (w : World) (lo hi : Nat) (v : Value) (ll : List (List Int)) : Prop :=
  ∃ (g : Nat) (vs : List Value), v = .slice (some ⟨g, 0, none⟩) ll.length ll.length ∧ vs.length = ll.length ∧ w.ownsRow g 43 1 v ll.length vs ∧ ∀ i, i < ll.length → HasInts w lo hi (vs.getD i undef) (ll.getD i []).length
theorem HasInts.lo {w : World} {lo lo' hi n : Nat} {v : Value} (h : HasInts w lo hi v n) (hl : lo' ≤ lo) : HasInts w lo' hi v n := by
  rcases h with h | ⟨g, cap, cur, h1, h2, h3⟩
  · exact .inl h
  · exact .inr ⟨g, cap, cur, h1, Nat.le_trans hl h2, h3⟩
theorem RowsNew.has {w : World} {lo hi : Nat} {v : Value} {ll : List (List Int)} (h : RowsNew w lo v ll) (hh : w.heap.size ≤ hi) : RowsHas w lo hi v ll := by
  obtain ⟨g, vs, h1, h2, h3, h4, h5⟩ := h
  exact ⟨g, vs, h2, h3, h4, fun i hi => ((h5 i hi).has hh).lo (by omega)⟩
theorem HasInts.below {w w' : World} {lo hi n : Nat} {v : Value} (h : HasInts w lo hi v n) (hb : Below w.heap.size w w') : HasInts w' lo hi v n := by
  rcases h with h | ⟨g, cap, cur, h1, h2, h3, h4, h5⟩
  · exact .inl h
  · exact .inr ⟨g, cap, cur, h1, h2, h3, (hb.block g (heap_lt h4)).trans h4, h5⟩
theorem RowsHas.below {w w' : World} {lo hi : Nat} {v : Value} {ll : List (List Int)} (h : RowsHas w lo hi v ll) (hb : Below w.heap.size w w') : RowsHas w' lo hi v ll := by
  obtain ⟨g, vs, h1, h2, h3, h4⟩ := h
  exact ⟨g, vs, h1, h2, owns_belowR h3 hb, fun i hi => (h4 i hi).below hb⟩
theorem marks1 (lo hi : Nat) (v : Value) (l : List Int) (k : Int) (w : World) (h : HasInts w lo hi v l.length) (hs : Small1 l) (h0 : 0 ≤ k) (hk : k ≤ 2305843009213693952) :
    Calls Tryz.prog 58 #[v, .int .i64 k] w (MarksPost lo hi (k + 1048576) w) := by
  unfold Small1 at hs
  exact (markIntS_any lo hi v l.length k w h h0 (by omega)).mono fun e w' ⟨h1, h2, _⟩ => ⟨_, h1, by omega, by omega, h2⟩
set_option maxHeartbeats 2000000 in
theorem marks2 (lo hi : Nat) (v : Value) (l : List (List Int)) (k : Int) (w : World) (h : RowsHas w lo hi v l) (hs : Small2 l) (h0 : 0 ≤ k) (hk : k ≤ 1152921504606846976) :
    Calls Tryz.prog 27 #[v, .int .i64 k] w (MarksPost lo hi (k + 1099511627776) w) := by
  obtain ⟨g, vs, rfl, hvl, hown, hin⟩ := h
  obtain ⟨hs, hsi⟩ := hs
  obtain ⟨n, hn⟩ : ∃ n, l.length = n := ⟨_, rfl⟩
  rw [hn] at hvl hown hin hs hsi ⊢
  have HN := Lib.hid hn
  have HO := Lib.hid hown
  have HI := Lib.hid hin
  have HV := Lib.hid hvl
  have HSI := Lib.hid hsi
  clear hn hown hin hvl hsi
  go_enter Tryz.func27, Tryz.ntmps27
  go_wp2_with fail
  go_loopg [1, 5] n (fun gh s i wr => ∃ (j : Nat) (r : Int), i = .int .i64 j ∧ s = .int .i64 r ∧ j + gh = n ∧ 0 ≤ r ∧ r ≤ k + j * 1048576 ∧ Hid (Marked lo hi w wr))
  case atStart => exact ⟨0, k, rfl, rfl, by omega, h0, by omega, Lib.hid (Marked.refl _ _ _)⟩
  case round =>
    obtain ⟨j, r, rfl, rfl, hj, r0, r1, hm⟩ := hrel
    by_cases hg0 : gk = 0
    · subst hg0
      obtain rfl : j = n := by omega
      go_wp2_with fail
      go_ret
      exact ⟨r, rfl, r0, by omega, hm.out⟩
    · have hjn : j < n := by omega
      have hown := owns_marked HO.out (by decide) (by decide) hm.out
      have hx : wr.cell? ⟨g, j, none⟩ = some (vs.getD j undef) := by rw [hown.cellAt j (by omega)]; simp [List.getElem?_eq_getElem (by rw [HV.out]; omega : j < vs.length)]
      have hcall := marks1 lo hi (vs.getD j undef) (l.getD j []) r wr ((HI.out j hjn).marked hm.out) (HSI.out j hjn) r0 (by omega)
      obtain ⟨y, hy⟩ : ∃ y, vs.getD j undef = y := ⟨_, rfl⟩
      rw [hy] at hx hcall
      have HC := Lib.hid hcall
      have HJ := Lib.hid hj
      clear hown hy hcall hj
      go_wp2_with (go_at_call 58; refine (HC.out).mono ?_; rintro e w1 ⟨r', rfl, q0, q1, hm1⟩; have HM1 := Lib.hid hm1; clear hm1)
      go_roundg (gk - 1)
      case measure => omega
      case rel => exact ⟨j + 1, r', by go_num, rfl, by have := HJ.out; omega, q0, by omega, Lib.hid (hm.out.trans HM1.out)⟩
/-! marks of homes -/
theorem HomNew.upto {w : World} {lo : Nat} {v : Value} {l : List Ent} (h : HomNew w lo v l) : ∀ b, v.ownBlock = some b → b < w.heap.size := fun b hb => by
  obtain ⟨xs, h1, _⟩ := h
  exact (World.ownsRow.lt h1 b hb).2
set_option maxHeartbeats 4000000 in
theorem markHomeS_any (lo hi : Nat) (v : Value) (l : List Ent) (k : Int) (w : World) (h : HomNew w lo v l) (hh : ∀ b, v.ownBlock = some b → b < hi) (hs : SmallE l) (h0 : 0 ≤ k) (hk : k ≤ 1152921504606846976) :
    Calls Tryz.prog 28 #[v, .int .i64 k] w fun e w' => e = .returned (.int .i64 (k + (l.length : Int) * 3)) ∧ KeptOut lo hi w w' := by
  unfold SmallE at hs
  obtain ⟨xs, hown, _⟩ := h
  obtain ⟨n, hn⟩ : ∃ n, l.length = n := ⟨_, rfl⟩
  rw [hn] at hown hs ⊢
  have hlt := World.ownsRow.lt hown
  rcases hown.2 with ⟨rfl, rfl⟩ | ⟨g, cap, cur, rfl, hb, hg, hnc, hcm, hcs, htake⟩
  · go_enter Tryz.func28, Tryz.ntmps28
    go_wp2_with fail
    go_loopg [1, 5] 1 (fun g s i wr => i = .int .i64 0 ∧ s = .int .i64 k ∧ wr = w)
    case atStart => exact ⟨rfl, rfl, rfl⟩
    case round =>
      obtain ⟨rfl, rfl, rfl⟩ := hrel
      go_wp2_with fail
      go_ret
      refine ⟨?_, KeptOut.refl _ _ _⟩
      simp
  · have hgi : g < hi := hh g rfl
    unfold maxLen at hcm
    have HG := Lib.hid hg
    have HCS := Lib.hid hcs
    clear hg hcs hown hlt htake
    go_enter Tryz.func28, Tryz.ntmps28
    go_wp2_with fail
    go_loopg [1, 5] n (fun gh s i wr => ∃ (j : Nat) (c : Array Value), i = .int .i64 j ∧ s = .int .i64 (k + j * 3) ∧ j + gh = n ∧ Hid (wr.heap[g]? = some (.cells c 37 (0, 0)) ∧ c.size = cap * 3) ∧ Hid (KeptOut lo hi w wr))
    case atStart => exact ⟨0, cur, rfl, by simp, by omega, Lib.hid ⟨HG.out, HCS.out⟩, Lib.hid (KeptOut.refl _ _ _)⟩
    case round =>
      obtain ⟨j, c, rfl, rfl, hj, hc, hm⟩ := hrel
      by_cases hg0 : gk = 0
      · subst hg0
        obtain rfl : j = n := by omega
        have hdn : decide ((j : Int) < (j : Int)) = false := by simp
        go_wp2_with fail
        go_ret
        exact ⟨rfl, hm.out⟩
      · have hjn : j < n := by omega
        have hjI : (j : Int) < (n : Int) := by omega
        have j0 : (0 : Int) ≤ (j : Int) := by omega
        obtain ⟨c1, c2⟩ := hc.out
        have key : ∀ q, q < c.size → ∃ y, wr.cell? ⟨g, q, none⟩ = some y := fun q hq => ⟨c[q], by
          rw [cell_of_row wr g q c 37 (0, 0) c1]
          simp [hq]⟩
        obtain ⟨y0, hx0⟩ := key (j * 3) (by omega)
        obtain ⟨y1, hx1⟩ := key (j * 3 + 1) (by omega)
        obtain ⟨y2, hx2⟩ := key (j * 3 + 2) (by omega)
        have hz0 : wr.frozen? ⟨g, j * 3, none⟩ = false := frozen_of_row wr g (j * 3) c 37 c1
        have hz1 : wr.frozen? ⟨g, j * 3 + 1, none⟩ = false := frozen_of_row wr g (j * 3 + 1) c 37 c1
        have hz2 : wr.frozen? ⟨g, j * 3 + 2, none⟩ = false := frozen_of_row wr g (j * 3 + 2) c 37 c1
        have C1 := Lib.hid c1
        have C2 := Lib.hid c2
        have HJ := Lib.hid hj
        clear c1 c2 hj key
        go_wp2_with fail
        go_roundg (gk - 1)
        case measure => omega
        case rel =>
          refine ⟨j + 1, _, by go_num, by go_num, by have := HJ.out; omega, Lib.hid ⟨setCell_block (setCell_block (setCell_block C1.out)), by simp [C2.out]⟩, Lib.hid ?_⟩
          exact hm.out.trans (((KeptOut.set hb hgi).trans (KeptOut.set hb hgi)).trans (KeptOut.set hb hgi))
/-! marks of a table of one's own -/
def numE (k : Int) (n : Nat) : List Ent := (List.range n).map fun (i : Nat) => (k + (i : Int) * 3, k + (i : Int) * 3 + 1, k + (i : Int) * 3 + 2)
theorem numE_len (k : Int) (n : Nat) : (numE k n).length = n := by simp [numE]
theorem numE_get {k : Int} {n i : Nat} (hi : i < n) : (numE k n).getD i (0, 0, 0) = (k + (i : Int) * 3, k + (i : Int) * 3 + 1, k + (i : Int) * 3 + 2) := by simp [numE, hi]
theorem nil_ents {w : World} {lo : Nat} {v : Value} {n : Nat} {k : Int} (hv : v = .slice none 0 0) (hn : n = 0) : EntNew w lo v (numE k n) := by
  subst hv; subst hn
  exact EntNew.nil _ _
def MarkRowPost (lo : Nat) (v : Value) (n : Nat) (k : Int) (w : World) (e : Ending) (w' : World) : Prop :=
  e = .returned (.int .i64 (k + (n : Int) * 3)) ∧ EntNew w' lo v (numE k n) ∧ w.grownBy w' v.ownBlock ∧ w'.heap.size = w.heap.size
set_option maxHeartbeats 4000000 in
theorem markRow_own (lo : Nat) (v : Value) (l : List Ent) (k : Int) (w : World) (h : EntNew w lo v l) (h0 : 0 ≤ k) (hk : k + l.length * 3 ≤ 4611686018427387904) :
    Calls Tryz.prog 59 #[v, .int .i64 k] w (MarkRowPost lo v l.length k w) := by
  obtain ⟨xs, hown, _⟩ := h
  obtain ⟨n, hn⟩ : ∃ n, l.length = n := ⟨_, rfl⟩
  rw [hn] at hown hk ⊢
  have hxl := hown.1
  rcases hown.2 with ⟨rfl, rfl⟩ | ⟨g, cap, cur, rfl, hb, hg, hnc, hcm, hcs, htake⟩
  · go_enter Tryz.func59, Tryz.ntmps59
    go_wp2_with fail
    go_loopg [1, 5] 1 (fun g s i wr => i = .int .i64 0 ∧ s = .int .i64 k ∧ wr = w)
    case atStart => exact ⟨rfl, rfl, rfl⟩
    case round =>
      obtain ⟨rfl, rfl, rfl⟩ := hrel
      go_wp2_with fail
      go_ret
      refine ⟨by simp, nil_ents rfl rfl, grownBy_refl _ _, rfl⟩
  · unfold maxLen at hcm
    have HO := Lib.hid hown
    clear hg hcs htake hown
    go_enter Tryz.func59, Tryz.ntmps59
    go_wp2_with fail
    go_loopg [1, 5] n (fun gh s i wr => ∃ (j : Nat) (ys : List Value), i = .int .i64 j ∧ s = .int .i64 (k + j * 3) ∧ j + gh = n ∧ Hid (wr.ownsRow lo 61 3 (.slice (some ⟨g, 0, none⟩) n cap) n ys) ∧ Hid (∀ q, q < j * 3 → ys.getD q undef = .int .i64 (k + (q : Int))) ∧ Hid (w.grownBy wr (some g)) ∧ Hid (wr.heap.size = w.heap.size))
    case atStart => exact ⟨0, xs, rfl, by simp, by omega, HO, Lib.hid (fun q hq => absurd hq (by omega)), Lib.hid (grownBy_refl _ _), Lib.hid rfl⟩
    case round =>
      obtain ⟨j, ys, rfl, rfl, hj, O, HY, HG, HZ⟩ := hrel
      by_cases hg0 : gk = 0
      · subst hg0
        obtain rfl : j = n := by omega
        have hdn : decide ((j : Int) < (j : Int)) = false := by simp
        go_wp2_with fail
        go_ret
        refine ⟨rfl, ⟨ys, by rw [numE_len]; exact O.out, fun i hi => ?_⟩, HG.out, HZ.out⟩
        rw [numE_len] at hi
        rw [numE_get hi, HY.out (i * 3) (by omega), HY.out (i * 3 + 1) (by omega), HY.out (i * 3 + 2) (by omega)]
        refine ⟨?_, ?_, ?_⟩ <;> exact congrArg (Value.int .i64) (by dsimp only; omega)
      · have hjn : j < n := by omega
        have hjI : (j : Int) < (n : Int) := by omega
        have j0 : (0 : Int) ≤ (j : Int) := by omega
        have hyl := O.out.1
        have hx0 : wr.cell? ⟨g, j * 3, none⟩ = some (ys.getD (j * 3) undef) := by rw [O.out.cellAt (j * 3) (by omega), List.getD_eq_getElem?_getD, List.getElem?_eq_getElem (by omega)]; rfl
        have hx1 : wr.cell? ⟨g, j * 3 + 1, none⟩ = some (ys.getD (j * 3 + 1) undef) := by rw [O.out.cellAt (j * 3 + 1) (by omega), List.getD_eq_getElem?_getD, List.getElem?_eq_getElem (by omega)]; rfl
        have hx2 : wr.cell? ⟨g, j * 3 + 2, none⟩ = some (ys.getD (j * 3 + 2) undef) := by rw [O.out.cellAt (j * 3 + 2) (by omega), List.getD_eq_getElem?_getD, List.getElem?_eq_getElem (by omega)]; rfl
        have hz0 := O.out.frozenAt (j * 3)
        have hz1 := O.out.frozenAt (j * 3 + 1)
        have hz2 := O.out.frozenAt (j * 3 + 2)
        obtain ⟨y0, hy0⟩ : ∃ y, ys.getD (j * 3) undef = y := ⟨_, rfl⟩
        obtain ⟨y1, hy1⟩ : ∃ y, ys.getD (j * 3 + 1) undef = y := ⟨_, rfl⟩
        obtain ⟨y2, hy2⟩ : ∃ y, ys.getD (j * 3 + 2) undef = y := ⟨_, rfl⟩
        rw [hy0] at hx0
        rw [hy1] at hx1
        rw [hy2] at hx2
        obtain ⟨s1, t1⟩ := O.out.stored (j * 3) (.int .i64 (k + (j : Int) * 3))
        obtain ⟨s2, t2⟩ := s1.stored (j * 3 + 1) (.int .i64 (k + (j : Int) * 3 + 1))
        obtain ⟨s3, t3⟩ := s2.stored (j * 3 + 2) (.int .i64 (k + (j : Int) * 3 + 1 + 1))
        have S3 := Lib.hid s3
        have T3 := Lib.hid (grown_trans HG.out (grown_trans t1 (grown_trans t2 t3)))
        have HJ := Lib.hid hj
        have HYL := Lib.hid hyl
        clear s1 s2 s3 t1 t2 t3 hj hy0 hy1 hy2 hyl
        go_wp2_with fail
        go_roundg (gk - 1)
        case measure => omega
        case rel =>
          refine ⟨j + 1, _, by go_num, by go_num, by have := HJ.out; omega, S3, Lib.hid (fun q hq => ?_), T3, Lib.hid (by have := HZ.out; simpa [World.setCell] using this)⟩
          have hl := HYL.out
          rw [set_getD (by simp; omega), set_getD (by simp; omega), set_getD (by omega)]
          by_cases q2 : q = j * 3 + 2
          · rw [if_pos q2, q2]; exact congrArg (Value.int .i64) (by omega)
          · rw [if_neg q2]
            by_cases q1 : q = j * 3 + 1
            · rw [if_pos q1, q1]; exact congrArg (Value.int .i64) (by omega)
            · rw [if_neg q1]
              by_cases q0 : q = j * 3
              · rw [if_pos q0, q0]; exact congrArg (Value.int .i64) (by omega)
              · rw [if_neg q0]
                exact HY.out q (by omega)
end Go.Proofs.YtnjkifnlimfhnaaGreatDoor
