/- Plain: homes stand by range, each once. -/
import Derived.Test.YtlpibfafpljedaaGreatDoorRelsOkS
import Derived.Test.YtlpibfafpljedaaGreatDoorHomApp
namespace Go.Proofs.YtlpibfafpljedaaGreatDoor
open Go.RowKit
set_option linter.unusedVariables false

theorem cmpI_neg {x y : Int} : cmpI x y < 0 ↔ x < y := by unfold cmpI; split <;> (try split) <;> omega
theorem cmpI_zero {x y : Int} : cmpI x y = 0 ↔ x = y := by unfold cmpI; split <;> (try split) <;> omega
theorem ord_neg {a b : Ent} : ordF a b < 0 ↔ a.1 < b.1 ∨ (a.1 = b.1 ∧ a.2.1 < b.2.1) := by
  unfold ordF rcmpF
  by_cases h : cmpI a.1 b.1 = 0
  · rw [if_neg (by simpa using h), cmpI_neg]
    have := cmpI_zero.1 h
    omega
  · rw [if_pos h, cmpI_neg]
    have : a.1 ≠ b.1 := fun e => h (cmpI_zero.2 e)
    omega
theorem ord_self (a : Ent) : ordF a a = 0 := by
  unfold ordF rcmpF
  have h := (cmpI_zero (x := a.1) (y := a.1)).2 rfl
  rw [if_neg (by simpa using h)]
  exact cmpI_zero.2 rfl
theorem ord_trans {a b c : Ent} (h1 : ordF a b < 0) (h2 : ordF b c < 0) : ordF a c < 0 := by rw [ord_neg] at *; omega
theorem homesOk_all {rs : List (List Int)} {l : List Ent} (h : homesOkF rs l = true) : relsOkF rs = true ∧ l.length ≤ 4 ∧ ∀ i, i < l.length → homOkF rs.length (l.getD i (0, 0, 0)) = true ∧ (i ≠ 0 → ordF (l.getD (i - 1) (0, 0, 0)) (l.getD i (0, 0, 0)) < 0) := by
  unfold homesOkF at h
  rw [Bool.and_eq_true, Bool.and_eq_true, List.all_eq_true, decide_eq_true_eq] at h
  refine ⟨h.2.1, h.2.2, fun i hi => ?_⟩
  have := h.1 i (List.mem_range.2 hi)
  rw [Bool.and_eq_true, Bool.or_eq_true, decide_eq_true_eq, decide_eq_true_eq] at this
  exact ⟨this.1, fun h0 => this.2.resolve_left h0⟩
theorem less_getD (l : List Ent) (k i : Nat) (hk : k < l.length) (hi : i < l.length - 1) : (l.take k ++ l.drop (k + 1)).getD i (0, 0, 0) = l.getD (if i < k then i else i + 1) (0, 0, 0) := by
  have hl : (l.take k).length = k := by rw [List.length_take]; omega
  simp only [List.getD_eq_getElem?_getD]
  by_cases h : i < k
  · rw [List.getElem?_append_left (by omega), if_pos h, List.getElem?_take_of_lt h]
  · rw [List.getElem?_append_right (by omega), if_neg h, List.getElem?_drop, hl]
    congr 2; omega
theorem less_ok {rs : List (List Int)} {l : List Ent} {k : Nat} (h : homesOkF rs l = true) (hk : k < l.length) : homesOkF rs (l.take k ++ l.drop (k + 1)) = true := by
  obtain ⟨h1, h2, h3⟩ := homesOk_all h
  have hlen : (l.take k ++ l.drop (k + 1)).length = l.length - 1 := by rw [List.length_append, List.length_take, List.length_drop]; omega
  rw [homesOk_good rfl, h1, hlen, Bool.true_and, decide_eq_true (by omega)]
  intro i hi
  rw [hlen] at hi
  rw [less_getD l k i hk hi]
  refine ⟨(h3 _ (by split <;> omega)).1, fun h0 => ?_⟩
  rw [less_getD l k (i - 1) hk (by omega)]
  by_cases hik : i < k
  · rw [if_pos (by omega), if_pos hik]
    exact (h3 i (by omega)).2 h0
  · rw [if_neg hik]
    by_cases hik2 : i = k
    · subst hik2
      rw [if_pos (by omega)]
      have a1 := (h3 i (by omega)).2 h0
      have a2 := (h3 (i + 1) (by omega)).2 (by omega)
      rw [Nat.add_sub_cancel] at a2
      exact ord_trans a1 a2
    · rw [if_neg (by omega), show i - 1 + 1 = i by omega]
      have a2 := (h3 (i + 1) (by omega)).2 (by omega)
      rw [Nat.add_sub_cancel] at a2
      exact a2
theorem twice_bad {rs : List (List Int)} {l : List Ent} {k : Nat} (hk : k < l.length) : homesOkF rs (l.take (k + 1) ++ l.drop k) = false := by
  have hl : (l.take (k + 1)).length = k + 1 := by rw [List.length_take]; omega
  have hlen : (l.take (k + 1) ++ l.drop k).length = l.length + 1 := by rw [List.length_append, hl, List.length_drop]; omega
  refine homesOk_ord (i := k + 1) (by omega) (by omega) ?_
  have e1 : (l.take (k + 1) ++ l.drop k).getD (k + 1 - 1) (0, 0, 0) = l.getD k (0, 0, 0) := by
    simp only [List.getD_eq_getElem?_getD]
    rw [List.getElem?_append_left (by omega), Nat.add_sub_cancel, List.getElem?_take_of_lt (by omega)]
  have e2 : (l.take (k + 1) ++ l.drop k).getD (k + 1) (0, 0, 0) = l.getD k (0, 0, 0) := by
    simp only [List.getD_eq_getElem?_getD]
    rw [List.getElem?_append_right (by omega), hl, Nat.sub_self, List.getElem?_drop]; rfl
  rw [e1, e2, ord_self]; omega
theorem house_bad {rs : List (List Int)} {l : List Ent} {k : Nat} (hk : k < l.length) (f b : Int) : homesOkF rs (l.set k (f, b, (rs.length : Int) + 1)) = false := by
  refine homesOk_bad (i := k) rfl (by rw [List.length_set]; exact hk) ?_
  have e : (l.set k (f, b, (rs.length : Int) + 1)).getD k (0, 0, 0) = (f, b, (rs.length : Int) + 1) := by simp [hk]
  rw [e]
  unfold homOkF
  have hd : decide ((rs.length : Int) + 1 ≤ (rs.length : Int)) = false := decide_eq_false (by omega)
  show (_ && (_ && decide ((rs.length : Int) + 1 ≤ (rs.length : Int)))) = false
  rw [hd]; simp
end Go.Proofs.YtlpibfafpljedaaGreatDoor
