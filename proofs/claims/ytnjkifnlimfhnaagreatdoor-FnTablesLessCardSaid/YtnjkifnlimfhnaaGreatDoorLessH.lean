/- Plain: without a home all others are gone to as ever. No program here. -/
import Derived.Test.YtnjkifnlimfhnaaGreatDoorSendP
namespace Go.Proofs.YtnjkifnlimfhnaaGreatDoor
set_option linter.unusedVariables false

/-! without a home -/
def entOf (rs : List (List Int)) (n h : Nat) (e : Ent) : Option Ent := if (end31 rs e.2.2 n).getD h [] = [] then none else some (e.1, e.2.1, viaF ((end31 rs e.2.2 n).getD h []) e.2.2)
theorem tabF_map (rs : List (List Int)) (n : Nat) (l : List Ent) (h : Nat) : ∀ i, i ≤ l.length → tabF rs n l h i = (l.take i).filterMap (entOf rs n h)
  | 0, _ => by simp [tabF]
  | i + 1, hi => by
    rw [tabF_succ, tabF_map rs n l h i (by omega), take_snoc (by omega), List.filterMap_append]
    unfold impStep impPut
    split
    · rename_i he
      have h0 : entOf rs n h (l.getD i (0, 0, 0)) = none := by unfold entOf; rw [if_pos he]
      rw [List.filterMap_cons, h0, List.filterMap_nil, List.append_nil]
    · rename_i he
      have h0 : entOf rs n h (l.getD i (0, 0, 0)) = some ((l.getD i (0, 0, 0)).1, (l.getD i (0, 0, 0)).2.1, viaF ((end31 rs (l.getD i (0, 0, 0)).2.2 n).getD h []) (l.getD i (0, 0, 0)).2.2) := by unfold entOf; rw [if_neg he]
      rw [List.filterMap_cons, h0, List.filterMap_nil]
def dropF (t : List Ent) (f b : Int) : List Ent := t.filter fun e => !(decide (e.1 = f) && decide (e.2.1 = b))
theorem drop_map (rs : List (List Int)) (n h : Nat) (f b : Int) : ∀ l : List Ent, dropF (l.filterMap (entOf rs n h)) f b = (dropF l f b).filterMap (entOf rs n h)
  | [] => rfl
  | e :: t => by
    have ih := drop_map rs n h f b t
    unfold dropF at ih ⊢
    rw [List.filterMap_cons, List.filter_cons]
    have hsame : ∀ e', entOf rs n h e = some e' → e'.1 = e.1 ∧ e'.2.1 = e.2.1 := fun e' he => by
      unfold entOf at he
      split at he
      · cases he
      · cases he; exact ⟨rfl, rfl⟩
    cases he : entOf rs n h e with
    | none =>
      simp only
      rw [ih]
      split
      · rw [List.filterMap_cons, he]
      · rfl
    | some e' =>
      obtain ⟨e1, e2⟩ := hsame e' he
      simp only
      rw [List.filter_cons, e1, e2]
      split
      · rw [List.filterMap_cons, he, ih]
      · exact ih
theorem drop_none {t : List Ent} {f b : Int} (h : ∀ e, e ∈ t → ¬ (e.1 = f ∧ e.2.1 = b)) : dropF t f b = t := by
  unfold dropF
  rw [List.filter_eq_self]
  intro e he
  have := h e he
  by_cases h1 : e.1 = f
  · by_cases h2 : e.2.1 = b
    · exact absurd ⟨h1, h2⟩ this
    · simp [h2]
  · simp [h1]
/-- in order of ranges the one place of a range is taken out -/
theorem drop_at {l : List Ent} (hr : Rise l) {k : Nat} (hk : k < l.length) : dropF l (l.getD k (0, 0, 0)).1 (l.getD k (0, 0, 0)).2.1 = l.take k ++ l.drop (k + 1) := by
  have hnot : ∀ i, i < l.length → i ≠ k → ¬ ((l.getD i (0, 0, 0)).1 = (l.getD k (0, 0, 0)).1 ∧ (l.getD i (0, 0, 0)).2.1 = (l.getD k (0, 0, 0)).2.1) := fun i hi hne h => hne (rise_same hr hk hi h.1 h.2)
  have e : l = l.take k ++ (l.getD k (0, 0, 0) :: l.drop (k + 1)) := by
    rw [List.getD_eq_getElem?_getD, List.getElem?_eq_getElem hk]
    simp
  have key : ∀ f b, dropF (l.take k ++ (l.getD k (0, 0, 0) :: l.drop (k + 1))) f b = dropF (l.take k) f b ++ dropF (l.getD k (0, 0, 0) :: l.drop (k + 1)) f b := fun f b => List.filter_append ..
  conv => lhs; rw [e]
  rw [key]
  congr 1
  · rw [← e]
    refine drop_none (fun x hx => ?_)
    obtain ⟨i, hi, rfl⟩ := List.getElem_of_mem hx
    have hi' : i < k := by simp at hi; omega
    have := hnot i (by omega) (by omega)
    rw [List.getD_eq_getElem?_getD, List.getElem?_eq_getElem (by omega : i < l.length)] at this
    simpa using this
  · rw [← e]
    unfold dropF
    rw [List.filter_cons, if_neg (by simp)]
    have := drop_none (t := l.drop (k + 1)) (f := (l.getD k (0, 0, 0)).1) (b := (l.getD k (0, 0, 0)).2.1) (fun x hx => by
      obtain ⟨i, hi, rfl⟩ := List.getElem_of_mem hx
      have hi' : k + 1 + i < l.length := by simp at hi; omega
      have := hnot (k + 1 + i) hi' (by omega)
      rw [List.getD_eq_getElem?_getD, List.getElem?_eq_getElem hi'] at this
      simpa using this)
    exact this
theorem rise_drop {l : List Ent} (hr : Rise l) {k : Nat} (hk : k < l.length) : Rise (l.take k ++ l.drop (k + 1)) ∧ (l.take k ++ l.drop (k + 1)).length = l.length - 1 ∧ ∀ i, i < l.length - 1 → (l.take k ++ l.drop (k + 1)).getD i (0, 0, 0) = l.getD (if i < k then i else i + 1) (0, 0, 0) := by
  have hlen : (l.take k ++ l.drop (k + 1)).length = l.length - 1 := by rw [List.length_append, List.length_take, List.length_drop]; omega
  have hget : ∀ i, i < l.length - 1 → (l.take k ++ l.drop (k + 1)).getD i (0, 0, 0) = l.getD (if i < k then i else i + 1) (0, 0, 0) := fun i hi => by
    rw [List.getD_eq_getElem?_getD, List.getD_eq_getElem?_getD]
    split
    · rename_i h
      rw [List.getElem?_append_left (by rw [List.length_take]; omega), List.getElem?_take, if_pos h]
    · rename_i h
      rw [List.getElem?_append_right (by rw [List.length_take]; omega), List.length_take, List.getElem?_drop]
      congr 2
      omega
  refine ⟨fun i j hij hj => ?_, hlen, hget⟩
  rw [hlen] at hj
  rw [hget i (by omega), hget j hj]
  exact hr _ _ (by split <;> split <;> omega) (by split <;> omega)
theorem homes_drop {rs : List (List Int)} {l : List Ent} (hok : homesOkF rs l = true) {k : Nat} (hk : k < l.length) : homesOkF rs (l.take k ++ l.drop (k + 1)) = true := by
  obtain ⟨hr, hlen, hget⟩ := rise_drop (homes_rise hok) hk
  obtain ⟨a1, a2, a3⟩ := homesOk_all hok
  rw [homesOk_good (n := rs.length) rfl (fun i hi => ?_)]
  · rw [a1, Bool.true_and, decide_eq_true_eq]; omega
  · rw [hlen] at hi
    refine ⟨by rw [hget i hi]; exact (a3 _ (by split <;> omega)).1, fun h0 => hr _ _ (by omega) (by omega)⟩
/-- tables without a home -/
theorem less_tabs {rs : List (List Int)} {l : List Ent} {n k h : Nat} (hok : homesOkF rs l = true) (hn : rs.length = n) (hk : k < l.length) (hh : h < n) :
    (sendTabsF rs (l.take k ++ l.drop (k + 1)) n).getD h [] = dropF ((sendTabsF rs l n).getD h []) (l.getD k (0, 0, 0)).1 (l.getD k (0, 0, 0)).2.1 := by
  rw [sendTabs_get (homes_drop hok hk) hn hh, sendTabs_get hok hn hh, tabF_map _ _ _ _ _ (Nat.le_refl _), tabF_map _ _ _ _ _ (Nat.le_refl _), List.take_length, List.take_length, drop_map, drop_at (homes_rise hok) hk]
end Go.Proofs.YtnjkifnlimfhnaaGreatDoor
