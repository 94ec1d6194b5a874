/- Plain: what is played is a state; what a house picks. -/
import Derived.Test.YtbbhnnbpeiodnaaDoorRanksPlayI
import Derived.Test.YtbbhnnbpeiodnaaDoorRanksExactPick
namespace Go.Proofs.YtbbhnnbpeiodnaaDoor
set_option linter.unusedVariables false
theorem pickF_state (rank ways : List (List Int)) : stateOk rank (pickF rank ways) = true := by
  rcases pickF_mem rank ways with e | e
  · rw [e]; exact stateOk_nil _
  · unfold stateOk; rw [decide_eq_true e]; simp
theorem stepW_state {r : List (List (List Int))} {ws : List (List Int)} {h : Int} (hw : ∀ i, stateOk (r.getD i []) (ws.getD i []) = true) : ∀ i, stateOk (r.getD i []) ((stepW r ws h).getD i []) = true := by
  intro i
  unfold stepW
  obtain ⟨q, hq⟩ : ∃ q, (h - 1).toNat = q := ⟨_, rfl⟩
  rw [hq]
  by_cases hi : i = q
  · subst hi
    by_cases hl : i < ws.length
    · have e : (ws.set i (pickF (r.getD i []) ws)).getD i [] = pickF (r.getD i []) ws := by rw [List.getD_eq_getElem?_getD, List.getElem?_set_self hl]; rfl
      rw [e]; exact pickF_state _ _
    · rw [List.set_eq_of_length_le (by omega)]; exact hw i
  · have e : (ws.set q (pickF (r.getD q []) ws)).getD i [] = ws.getD i [] := by rw [List.getD_eq_getElem?_getD, List.getElem?_set_ne (Ne.symm hi), List.getD_eq_getElem?_getD]
    rw [e]; exact hw i
theorem foldW_state {r : List (List (List Int))} : ∀ (order : List Int) (ws : List (List Int)), (∀ i, stateOk (r.getD i []) (ws.getD i []) = true) → ∀ i, stateOk (r.getD i []) ((order.foldl (stepW r) ws).getD i []) = true
  | [], _, hw => hw
  | h :: t, ws, hw => by rw [List.foldl_cons]; exact foldW_state t _ (stepW_state hw)
theorem playW_state (r : List (List (List Int))) (order : List Int) : ∀ i, stateOk (r.getD i []) ((playW r order).getD i []) = true :=
  foldW_state order _ fun i => by
    have e : ([[], [], []] : List (List Int)).getD i [] = [] := by
      match i with
      | 0 => rfl
      | 1 => rfl
      | 2 => rfl
      | n + 3 => simp
    rw [e]; exact stateOk_nil _
theorem playF_ways {r : List (List (List Int))} {l : List Int} (hr : ranksOk r = true) (hl : (playF r l).1.length = 3) : waysOk r (playF r l).1 = true := by
  by_cases h : ranksOk r = true ∧ orderOk l = true
  · unfold playF
    rw [if_pos h]
    exact waysOk_good (by rw [playW_len, ranksOk_len hr]) (fun i _ => playW_state r l i)
  · rw [playF_no h] at hl; simp at hl
theorem pickF_hit' {rank ways : List (List Int)} {way : List Int} (h : pickF rank ways = way) (hn : way ≠ []) : way ∈ rank := by
  rcases pickF_mem rank ways with e | e
  · rw [h] at e; exact absurd e hn
  · rw [h] at e; exact e
theorem pickF_none {rank ways : List (List Int)} (hg : ∀ p, p ∈ rank → GoodWay p) (h : pickF rank ways = []) : ∀ p, p ∈ rank → pickHit ways p = false := by
  intro p hp
  unfold pickF at h
  cases hf : rank.find? (pickHit ways) with
  | none => rw [List.find?_eq_none] at hf; have := hf p hp; simpa using this
  | some x =>
    rw [hf] at h
    have hx := List.mem_of_find?_eq_some hf
    have h2 := (hg x hx).1
    simp at h
    rw [h] at h2; simp at h2
end Go.Proofs.YtbbhnnbpeiodnaaDoor
