/- Marks of the ways that RanksPlay hands back; whether they are held. -/
import Derived.Test.YtlkchhedlbaomaaRanksMark2
import Derived.Test.YtlkchhedlbaomaaRanksPlayI
namespace Go.Proofs.Ytlkchhedlbaomaa
open Go.RowKit
set_option linter.unusedVariables false

theorem Marked.widen {lo hi lo' hi' : Nat} {w w' : World} (h : Marked lo hi w w') (h1 : lo' ≤ lo) (h2 : hi ≤ hi') : Marked lo' hi' w w' :=
  ⟨h.os, h.tape, h.output, h.size, fun b hb => h.out b (by omega), h.other, h.ints⟩
theorem OwnInts.other {w w' : World} {lo g : Nat} {v : Value} {l : List Int} (h : OwnInts w lo v l) (hm : Marked g (g + 1) w w') (hne : v.ownBlock ≠ some g) : OwnInts w' lo v l := by
  refine ⟨h.1, ?_⟩
  rcases h.2 with h' | ⟨g', cap, cur, h1, h2, h3, h4⟩
  · exact .inl h'
  · have : g' ≠ g := by intro e; subst e; exact hne (by rw [h1]; rfl)
    exact .inr ⟨g', cap, cur, h1, h2, (hm.out g' (by omega)).trans h3, h4⟩
/-- one row is marked: no other block has turned -/
def Mark1Post (lo hi : Nat) (v : Value) (n : Nat) (k : Int) (w : World) (e : Ending) (w' : World) : Prop :=
  e = .returned (.int .i64 (k + n)) ∧ OwnInts w' lo v (numsFrom k n) ∧ (Marked 0 0 w w' ∨ ∃ g, v.ownBlock = some g ∧ lo ≤ g ∧ g < hi ∧ Marked g (g + 1) w w')
theorem Mark1Post.marked {lo hi : Nat} {v : Value} {n : Nat} {k : Int} {w : World} {e : Ending} {w' : World} (h : Mark1Post lo hi v n k w e w') : Marked lo hi w w' := by
  rcases h.2.2 with hm | ⟨g, _, h1, h2, hm⟩
  · exact ⟨hm.os, hm.tape, hm.output, hm.size, fun b _ => hm.out b (.inr (Nat.zero_le _)), hm.other, hm.ints⟩
  · exact hm.widen h1 (by omega)
theorem mark1_own (lo hi : Nat) (v : Value) (l : List Int) (k : Int) (w : World) (h : OwnInts w lo v l) (hh : w.heap.size ≤ hi) (h0 : 0 ≤ k) (hk : k + l.length ≤ 4611686018427387904) :
    Calls Try.prog 46 #[v, .int .i64 k] w (Mark1Post lo hi v l.length k w) := by
  have hlt := World.ownsRow.lt h
  rcases h.2 with ⟨rfl, hn⟩ | ⟨g, cap, cur, rfl, hb, hg, hnc, hcm, hcs, htake⟩
  · refine (markIntS_any 0 0 _ l.length k w (.inl ⟨rfl, hn⟩) h0 hk).mono ?_
    rintro e w' ⟨h1, h2, h3⟩
    refine ⟨h1, ?_, .inl h2⟩
    rw [hn]
    exact World.ownsRow_nil w' lo 3 1
  · have h0' : HasInts w g (g + 1) (.slice (some ⟨g, 0, none⟩) l.length cap) l.length := .inr ⟨g, cap, cur, rfl, Nat.le_refl _, by omega, hg, hnc, hcm, by simpa using hcs⟩
    refine (markIntS_any g (g + 1) _ l.length k w h0' h0 hk).mono ?_
    rintro e w' ⟨h1, h2, h3⟩
    exact ⟨h1, h3.lift hb, .inr ⟨g, rfl, hb, by have := (hlt g rfl).2; omega, h2⟩⟩

def offs (ws : List (List Int)) (i : Nat) : Nat := ((ws.take i).map List.length).sum
theorem offs_zero (ws : List (List Int)) : offs ws 0 = 0 := by simp [offs]
theorem offs_succ {ws : List (List Int)} {i : Nat} (hi : i < ws.length) : offs ws (i + 1) = offs ws i + (ws.getD i []).length := by
  unfold offs
  rw [List.take_succ_eq_append_getElem hi, List.map_append, List.sum_append]
  simp [List.getElem?_eq_getElem hi]
theorem offs_le {ws : List (List Int)} {m : Nat} (h : ∀ i, i < ws.length → (ws.getD i []).length ≤ m) : ∀ i, i ≤ ws.length → offs ws i ≤ i * m
  | 0, _ => by rw [offs_zero]; omega
  | i + 1, hi => by
    have := offs_le h i (by omega)
    have := h i (by omega)
    rw [offs_succ (by omega), Nat.add_mul]; omega
/-- the rows after they have been marked -/
def marksOf (ws : List (List Int)) : List (List Int) := (List.range ws.length).map fun i => numsFrom (1 + offs ws i) (ws.getD i []).length
theorem marksOf_len (ws : List (List Int)) : (marksOf ws).length = ws.length := by simp [marksOf]
theorem marksOf_get {ws : List (List Int)} {i : Nat} (hi : i < ws.length) : (marksOf ws).getD i [] = numsFrom (1 + offs ws i) (ws.getD i []).length := by simp [marksOf, hi]
def MarkWaysPost (lo hi : Nat) (v : Value) (ws : List (List Int)) (w : World) (e : Ending) (w' : World) : Prop :=
  e = .returned (.int .i64 (1 + offs ws ws.length)) ∧ Marked lo hi w w' ∧ RowsAt w' v (marksOf ws)

set_option maxHeartbeats 4000000 in
theorem markWays_any (lo hi : Nat) (v : Value) (ws : List (List Int)) (w : World) (h : WaysOwn w lo v ws) (hh : w.heap.size ≤ hi) (hs : ∀ i, i < ws.length → (ws.getD i []).length ≤ 4) :
    Calls Try.prog 47 #[v, .int .i64 1] w (MarkWaysPost lo hi v ws w) := by
  rcases h with ⟨rfl, a, cap, rfl, hc⟩ | ⟨g, vs, rfl, hlo, hw⟩
  · go_enter Try.func47, Try.ntmps47
    go_wp2_with fail
    go_loopg [1, 5] 1 (fun g s i wr => i = .int .i64 0 ∧ s = .int .i64 1 ∧ wr = w)
    case atStart => exact ⟨rfl, rfl, rfl⟩
    case round =>
      obtain ⟨rfl, rfl, rfl⟩ := hrel
      go_wp2_with fail
      go_ret
      refine ⟨rfl, Marked.refl _ _ _, ⟨fun _ => undef, ⟨a, cap, rfl, Nat.zero_le _, by unfold maxLen; exact hc, .inl rfl⟩, fun i hi => absurd hi (Nat.not_lt_zero _)⟩⟩
  · have hw3 := hw.wl
    obtain ⟨E, hE⟩ : ∃ E, offs ws ws.length = E := ⟨_, rfl⟩
    have hE12 : E ≤ 12 := by have := offs_le hs ws.length (Nat.le_refl _); rw [hw3] at this hE; omega
    rw [hw3] at hs hE
    have HW := Lib.hid hw
    have HS := Lib.hid hs
    have HE := Lib.hid hE
    have HL := Lib.hid hw3
    clear hw hs hE hw3
    go_enter Try.func47, Try.ntmps47
    go_wp2_with fail
    go_loopg [1, 5] 3 (fun gh s i wr => ∃ (j : Nat) (o : Nat), i = .int .i64 j ∧ s = .int .i64 (1 + o) ∧ j + gh = 3 ∧ o ≤ 4 * j ∧ Hid (offs ws j = o) ∧ Hid (Marked lo hi w wr) ∧
      Hid (∀ i, i < 3 → OwnInts wr lo (vs.getD i undef) (if i < j then numsFrom (1 + offs ws i) (ws.getD i []).length else ws.getD i [])))
    case atStart => exact ⟨0, 0, rfl, rfl, by omega, by omega, Lib.hid (offs_zero _), Lib.hid (Marked.refl _ _ _), Lib.hid fun i hi => by rw [if_neg (by omega)]; exact HW.out.rows i hi⟩
    case round =>
      obtain ⟨j, o, rfl, rfl, hj, ho4, hof, hm, hrows⟩ := hrel
      by_cases hg0 : gk = 0
      · subst hg0
        obtain rfl : j = 3 := by omega
        go_wp2_with fail
        go_ret
        refine ⟨?_, hm.out, ?_⟩
        · show Ending.returned (.int .i64 (1 + (o : Int))) = _
          rw [HL.out, hof.out]
        · have hs := ownsRow_slice HW.out.vl (owns_marked HW.out.own (by decide) hm.out)
          refine ⟨_, by rw [marksOf_len, HL.out]; exact hs, fun i hi => ?_⟩
          rw [marksOf_len, HL.out] at hi
          have := hrows.out i hi
          rw [if_pos hi] at this
          rw [marksOf_get (by rw [HL.out]; exact hi)]
          exact this.ints
      · have hjn : j < 3 := by omega
        have hown := owns_marked HW.out.own (by decide) hm.out
        have hx : wr.cell? ⟨g, j, none⟩ = some (vs.getD j undef) := by rw [hown.cellAt j (by omega)]; simp [List.getElem?_eq_getElem (by rw [HW.out.vl]; omega : j < vs.length)]
        have hr := hrows.out j hjn
        rw [if_neg (by omega)] at hr
        have hl4 := HS.out j hjn
        have hcall := mark1_own lo hi (vs.getD j undef) (ws.getD j []) (1 + o) wr hr (by rw [hm.out.size]; exact hh) (by omega) (by omega)
        obtain ⟨y, hy⟩ : ∃ y, vs.getD j undef = y := ⟨_, rfl⟩
        obtain ⟨m, hmm⟩ : ∃ m, (ws.getD j []).length = m := ⟨_, rfl⟩
        rw [hy] at hx hcall
        rw [hmm] at hcall hl4
        have HC := Lib.hid hcall
        have HJ := Lib.hid hj
        have HY := Lib.hid hy
        have HMM := Lib.hid hmm
        clear hown hy hcall hj hr hmm
        go_wp2_with (go_at_call 46; refine (HC.out).mono ?_; rintro e w1 hp; have he := hp.1; have HP := Lib.hid hp; clear hp; subst he)
        go_roundg (gk - 1)
        case measure => omega
        case rel =>
          have hsucc : offs ws (j + 1) = o + m := by rw [offs_succ (by rw [HL.out]; exact hjn), hof.out, HMM.out]
          refine ⟨j + 1, o + m, by go_num, by go_num, by have := HJ.out; omega, by omega, Lib.hid hsucc, Lib.hid (hm.out.trans HP.out.marked), Lib.hid fun i hi => ?_⟩
          by_cases hij : i = j
          · subst hij
            rw [if_pos (by omega), HY.out, HMM.out, hof.out]
            exact HP.out.2.1
          · have hri := hrows.out i hi
            have e : (if i < j then numsFrom (1 + (offs ws i : Int)) (ws.getD i []).length else ws.getD i []) = (if i < j + 1 then numsFrom (1 + (offs ws i : Int)) (ws.getD i []).length else ws.getD i []) := by
              by_cases h1 : i < j
              · rw [if_pos h1, if_pos (by omega)]
              · rw [if_neg h1, if_neg (by omega)]
            rw [← e]
            rcases HP.out.2.2 with hm0 | ⟨g', hg1, hg2, hg3, hm1⟩
            · exact hri.out hm0 (Nat.zero_le _)
            · refine hri.other hm1 ?_
              intro e2
              exact HW.out.apart i j hi hjn hij g' e2 (by rw [HY.out]; exact hg1)
end Go.Proofs.Ytlkchhedlbaomaa
