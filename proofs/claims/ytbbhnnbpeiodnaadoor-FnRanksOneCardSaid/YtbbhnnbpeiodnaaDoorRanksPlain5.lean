/- Plain: a ring of three is never still; who likes home at once goes so; who likes no way has none. -/
import Derived.Test.YtbbhnnbpeiodnaaDoorRanksPlain4
import Derived.Test.YtbbhnnbpeiodnaaDoorRanksPlain3
namespace Go.Proofs.YtbbhnnbpeiodnaaDoor
set_option linter.unusedVariables false
theorem getD_nil_ge {α : Type} (l : List α) (d : α) {i : Nat} (h : l.length ≤ i) : l.getD i d = d := by
  rw [List.getD_eq_getElem?_getD, List.getElem?_eq_none h]; rfl
theorem three_of {ws : List (List Int)} (h : ws.length = 3) : ws = [ws.getD 0 [], ws.getD 1 [], ws.getD 2 []] := by
  match ws, h with
  | [a, b, c], _ => rfl
theorem stateOk_chs {rank : List (List Int)} {way : List Int} (h : stateOk rank way = true) : way ∈ chs rank := by
  unfold stateOk at h
  rw [Bool.or_eq_true, decide_eq_true_eq, decide_eq_true_eq] at h
  rcases h with h | h
  · subst h; simp [chs]
  · simp [chs, h]
theorem ring_all : ∀ a, a ∈ chs [[1, 2, 0], [1, 0]] → ∀ b, b ∈ chs [[2, 3, 0], [2, 0]] → ∀ c, c ∈ chs [[3, 1, 0], [3, 0]] → stillF [[[1, 2, 0], [1, 0]], [[2, 3, 0], [2, 0]], [[3, 1, 0], [3, 0]]] [a, b, c] = false := by decide +kernel
theorem ring_never (order : List Int) : stillF [[[1, 2, 0], [1, 0]], [[2, 3, 0], [2, 0]], [[3, 1, 0], [3, 0]]] (playW [[[1, 2, 0], [1, 0]], [[2, 3, 0], [2, 0]], [[3, 1, 0], [3, 0]]] order) = false := by
  have hs := playW_state [[[1, 2, 0], [1, 0]], [[2, 3, 0], [2, 0]], [[3, 1, 0], [3, 0]]] order
  have hl := playW_len [[[1, 2, 0], [1, 0]], [[2, 3, 0], [2, 0]], [[3, 1, 0], [3, 0]]] order
  rw [three_of hl]
  exact ring_all _ (stateOk_chs (hs 0)) _ (stateOk_chs (hs 1)) _ (stateOk_chs (hs 2))
theorem ring_ok : ranksOk [[[1, 2, 0], [1, 0]], [[2, 3, 0], [2, 0]], [[3, 1, 0], [3, 0]]] = true := by decide +kernel
theorem two_ok : ranksOk [[[1, 2, 0], [1, 0]], [[2, 1, 0], [2, 0]], []] = true := by decide +kernel
theorem direct_ok : ranksOk [[[1, 0]], [[2, 0]], [[3, 0]]] = true := by decide +kernel
theorem none_ok : ranksOk [[], [], []] = true := by decide +kernel
theorem pick_direct (ws : List (List Int)) (h : Int) (h1 : 1 ≤ h) (h3 : h ≤ 3) : pickF ([[[1, 0]], [[2, 0]], [[3, 0]]].getD (h - 1).toNat []) ws = [h, 0] := by
  have e : h = 1 ∨ h = 2 ∨ h = 3 := by omega
  rcases e with rfl | rfl | rfl <;> simp [pickF, pickHit]
theorem foldl_direct : ∀ (order : List Int) (ws : List (List Int)) (h : Int), ws.length = 3 → (∀ x, x ∈ order → 1 ≤ x ∧ x ≤ 3) → 1 ≤ h → h ≤ 3 →
    (h ∈ order ∨ ws.getD (h - 1).toNat [] = [h, 0]) → (order.foldl (stepW [[[1, 0]], [[2, 0]], [[3, 0]]]) ws).getD (h - 1).toNat [] = [h, 0]
  | [], ws, h, _, _, _, _, hh => by
    rcases hh with hh | hh
    · simp at hh
    · exact hh
  | x :: t, ws, h, hl, ho, h1, h3, hh => by
    rw [List.foldl_cons]
    obtain ⟨hx1, hx3⟩ := ho x (by simp)
    refine foldl_direct t _ h (by rw [stepW_len]; exact hl) (fun y hy => ho y (by simp [hy])) h1 h3 ?_
    by_cases e : h = x
    · subst e
      right
      unfold stepW
      rw [List.getD_eq_getElem?_getD, List.getElem?_set_self (by omega), pick_direct ws h h1 h3]; rfl
    · rcases hh with hh | hh
      · left; simpa [e] using hh
      · right
        unfold stepW
        rw [List.getD_eq_getElem?_getD, List.getElem?_set_ne (by omega), ← List.getD_eq_getElem?_getD]; exact hh
/-- who likes home at once best goes so -/
theorem play_direct {order : List Int} (ho : orderOk order = true) {i : Nat} (hi : i < order.length) :
    (playW [[[1, 0]], [[2, 0]], [[3, 0]]] order).getD (order.getD i 0 - 1).toNat [] = [order.getD i 0, 0] := by
  have hall : ∀ x, x ∈ order → 1 ≤ x ∧ x ≤ 3 := fun x hx => by
    obtain ⟨k, hk, rfl⟩ := List.getElem_of_mem hx
    have := orderOk_at ho hk
    rwa [List.getD_eq_getElem?_getD, List.getElem?_eq_getElem hk] at this
  have hx := orderOk_at ho hi
  have hm : order.getD i 0 ∈ order := by
    rw [List.getD_eq_getElem?_getD, List.getElem?_eq_getElem hi]; exact List.getElem_mem _
  exact foldl_direct order _ _ rfl hall hx.1 hx.2 (.inl hm)
/-- who likes no way has none -/
theorem play_none {r : List (List (List Int))} {order : List Int} {h : Nat} (hr : r.getD h [] = []) : (playW r order).getD h [] = [] := by
  have := playW_state r order h
  rw [hr] at this
  simpa [stateOk] using this
end Go.Proofs.YtbbhnnbpeiodnaaDoor
