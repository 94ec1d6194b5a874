/- Plain: the reference's way of a packet is the program's. -/
import Derived.Test.YtlpibfafpljedaaGreatDoorSendS
namespace Go.Proofs.YtlpibfafpljedaaGreatDoor
set_option linter.unusedVariables false

def goW (f : Int → Int) (n : Nat) : Nat → Int → List Int → List Int × Bool
  | 0, _, way => (way, false)
  | k + 1, h, way => if f h = h then (way, true) else if f h < 1 ∨ (n : Int) < f h then (way, false) else goW f n k (f h) (way ++ [f h])
def goS (f : Int → Int) (n : Nat) : Nat → Int → List Int → List Int × Bool
  | 0, _, way => (way, false)
  | k + 1, h, way => if f h = h then (way ++ [h], true) else if f h < 1 ∨ (n : Int) < f h then (way ++ [h], false) else goS f n k (f h) (way ++ [h])
def itF (f : Int → Int) (h : Int) : Nat → Int
  | 0 => h
  | k + 1 => f (itF f h k)
theorem itF_shift (f : Int → Int) (h : Int) : ∀ k, itF f (f h) k = itF f h (k + 1)
  | 0 => rfl
  | k + 1 => by show f (itF f (f h) k) = _; rw [itF_shift f h k]; rfl
/-- among n + 1 numbers from 1 to n two are the same -/
theorem pigeon : ∀ (n : Nat) (g : Nat → Int), (∀ i, i ≤ n → 1 ≤ g i ∧ g i ≤ (n : Int)) → ∃ i j, i < j ∧ j ≤ n ∧ g i = g j
  | 0, g, h => by have := h 0 (Nat.le_refl _); omega
  | n + 1, g, h => by
    by_cases hex : ∃ i, i ≤ n ∧ g i = g (n + 1)
    · obtain ⟨i, hi, e⟩ := hex
      exact ⟨i, n + 1, by omega, Nat.le_refl _, e⟩
    · have hne : ∀ i, i ≤ n → g i ≠ g (n + 1) := fun i hi e => hex ⟨i, hi, e⟩
      have hv := h (n + 1) (Nat.le_refl _)
      obtain ⟨i, j, hij, hj, e⟩ := pigeon n (fun i => if g (n + 1) < g i then g i - 1 else g i) (fun i hi => by
        have h1 := h i (by omega)
        have h2 := hne i hi
        split <;> omega)
      refine ⟨i, j, hij, by omega, ?_⟩
      have h1 := hne i (by omega)
      have h2 := hne j (by omega)
      split at e <;> split at e <;> omega
theorem itF_stay {f : Int → Int} {h : Int} {n : Nat} (hf : f (itF f h n) = itF f h n) : ∀ m, itF f h (n + m) = itF f h n
  | 0 => rfl
  | m + 1 => by show f (itF f h (n + m)) = _; rw [itF_stay hf m, hf]
theorem itF_per {f : Int → Int} {h : Int} {i j : Nat} (e : itF f h i = itF f h j) : ∀ m, itF f h (i + m) = itF f h (j + m)
  | 0 => e
  | m + 1 => by show f (itF f h (i + m)) = f (itF f h (j + m)); rw [itF_per e m]
theorem itF_cyc {f : Int → Int} {h : Int} {i d : Nat} (e : itF f h i = itF f h (i + d)) : ∀ m, itF f h i = itF f h (i + m * d)
  | 0 => by simp
  | m + 1 => by
    have h1 := itF_per e (m * d)
    have h2 := itF_cyc e m
    rw [h2, h1]
    congr 1
    rw [Nat.succ_mul]; omega
/-- who has gone on n times comes to no house that stays -/
theorem no_end {f : Int → Int} {h : Int} {n : Nat} (h1 : 1 ≤ h) (hn : h ≤ (n : Int)) (hgo : ∀ j, j < n → f (itF f h j) ≠ itF f h j ∧ 1 ≤ f (itF f h j) ∧ f (itF f h j) ≤ (n : Int)) : f (itF f h n) ≠ itF f h n := by
  intro hf
  obtain ⟨i, j, hij, hj, e⟩ := pigeon n (itF f h) (fun i hi => by
    cases i with
    | zero => exact ⟨h1, hn⟩
    | succ i => exact (hgo i (by omega)).2)
  obtain ⟨d, rfl⟩ : ∃ d, j = i + d := ⟨j - i, by omega⟩
  have h2 := itF_cyc e n
  have h3 : itF f h (i + n * d) = itF f h n := by
    obtain ⟨m, hm⟩ : ∃ m, i + n * d = n + m := ⟨i + n * d - n, by
      have : n * 1 ≤ n * d := Nat.mul_le_mul_left n (by omega)
      omega⟩
    rw [hm]; exact itF_stay hf m
  rw [h3] at h2
  exact (hgo i (by omega)).1 (by rw [h2]; exact hf)
theorem goS_goW {f : Int → Int} {n : Nat} : ∀ (k : Nat) (h : Int) (way : List Int), ((∀ j, j < k → f (itF f h j) ≠ itF f h j ∧ 1 ≤ f (itF f h j) ∧ f (itF f h j) ≤ (n : Int)) → f (itF f h k) ≠ itF f h k) → goS f n (k + 1) h way = goW f n k h (way ++ [h])
  | 0, h, way, hne => by
    have := hne (fun j hj => by omega)
    simp only [itF] at this
    unfold goS goW
    rw [if_neg this]
    split <;> rfl
  | k + 1, h, way, hne => by
    have e1 : goS f n (k + 1 + 1) h way = if f h = h then (way ++ [h], true) else if f h < 1 ∨ (n : Int) < f h then (way ++ [h], false) else goS f n (k + 1) (f h) (way ++ [h]) := rfl
    have e2 : goW f n (k + 1) h (way ++ [h]) = if f h = h then (way ++ [h], true) else if f h < 1 ∨ (n : Int) < f h then (way ++ [h], false) else goW f n k (f h) (way ++ [h] ++ [f h]) := rfl
    rw [e1, e2]
    by_cases a : f h = h
    · rw [if_pos a, if_pos a]
    · rw [if_neg a, if_neg a]
      by_cases b : f h < 1 ∨ (n : Int) < f h
      · rw [if_pos b, if_pos b]
      · rw [if_neg b, if_neg b]
        refine goS_goW k (f h) _ (fun hj => ?_)
        rw [itF_shift]
        refine hne (fun j hjk => ?_)
        cases j with
        | zero => exact ⟨a, by simp only [itF]; omega, by simp only [itF]; omega⟩
        | succ j => have := hj j (by omega); rw [itF_shift] at this; exact this
theorem goS_eq {f : Int → Int} {n : Nat} {h : Int} (h1 : 1 ≤ h) (hn : h ≤ (n : Int)) : goS f n (n + 1) h [] = goW f n n h [h] :=
  goS_goW n h [] (fun hgo => no_end h1 hn hgo)
def nextF (ls : List (List Ent)) (x h : Int) : Int := fV (vF (ls.getD (h - 1).toNat [])) x 9
def wayF (ls : List (List Ent)) (h x : Int) : List Int × Bool :=
  if tablesOkF ls = true ∧ 1 ≤ h ∧ h ≤ (ls.length : Int) ∧ addrF x = true then goW (nextF ls x) ls.length ls.length h [h] else ([], false)
theorem goW_len (f : Int → Int) (n : Nat) : ∀ (k : Nat) (h : Int) (way : List Int), (goW f n k h way).1.length ≤ way.length + k
  | 0, _, _ => Nat.le_refl _
  | k + 1, h, way => by
    unfold goW
    split
    · simp
    · split
      · simp
      · have := goW_len f n k (f h) (way ++ [f h])
        simp at this
        omega
end Go.Proofs.YtlpibfafpljedaaGreatDoor
