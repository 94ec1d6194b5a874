/- Plain: what a binary trie of a table finds is what the reference finds. -/
import Derived.Test.YtgpdkplpneklgaaTab2
namespace Go.Proofs.Ytgpdkplpneklgaa
set_option linter.unusedVariables false

/-- by whom, for the ranges of k bits that begin so -/
def vF (l : List Ent) (k : Nat) (p : Int) : Int := l.foldl (fun acc e => if e.2.1 = (k : Int) ∧ e.1 / sizeF e.2.1 = p then e.2.2 else acc) 0
theorem vF_snoc (l : List Ent) (e : Ent) (k : Nat) (p : Int) : vF (l ++ [e]) k p = if e.2.1 = (k : Int) ∧ e.1 / sizeF e.2.1 = p then e.2.2 else vF l k p := by
  unfold vF; rw [List.foldl_append]; rfl
/-- what is found on the way down, of the first k nodes -/
def fV (v : Nat → Int → Int) (x : Int) : Nat → Int
  | 0 => 0
  | k + 1 => if v k (x / sizeF k) ≠ 0 then v k (x / sizeF k) else fV v x k
theorem fV_none {v : Nat → Int → Int} {x : Int} : ∀ n : Nat, (∀ k, k < n → v k (x / sizeF k) = 0) → fV v x n = 0
  | 0, _ => rfl
  | n + 1, h => by
    unfold fV
    rw [if_neg (by rw [h n (by omega)]; simp)]
    exact fV_none n (fun k hk => h k (by omega))
theorem fV_at {v : Nat → Int → Int} {x c : Int} {K : Nat} (hc : c ≠ 0) (hv : v K (x / sizeF K) = c) : ∀ n : Nat, K < n → (∀ k, K < k → k < n → v k (x / sizeF k) = 0) → fV v x n = c
  | 0, h, _ => by omega
  | n + 1, h, hz => by
    unfold fV
    by_cases e : K = n
    · subst e
      rw [if_pos (by rw [hv]; exact hc), hv]
    · rw [if_neg (by rw [hz n (by omega) (by omega)]; simp)]
      exact fV_at hc hv n (by omega) (fun k h1 h2 => hz k h1 (by omega))
theorem fV_cut {v : Nat → Int → Int} {x : Int} {K : Nat} : ∀ n : Nat, K ≤ n → (∀ k, K ≤ k → k < n → v k (x / sizeF k) = 0) → fV v x n = fV v x K
  | 0, h, _ => by obtain rfl : K = 0 := by omega
                  rfl
  | n + 1, h, hz => by
    by_cases e : K = n + 1
    · rw [e]
    · have e1 : fV v x (n + 1) = if v n (x / sizeF n) ≠ 0 then v n (x / sizeF n) else fV v x n := rfl
      rw [e1, if_neg (by rw [hz n (by omega) (by omega)]; simp)]
      exact fV_cut n (by omega) (fun k h1 h2 => hz k h1 (by omega))
theorem vF_zero {l : List Ent} {k : Nat} {p : Int} : (∀ e, e ∈ l → ¬ (e.2.1 = (k : Int) ∧ e.1 / sizeF e.2.1 = p)) → vF l k p = 0 := by
  unfold vF
  generalize (0 : Int) = z
  induction l generalizing z with
  | nil => intro _; rfl
  | cons a t ih =>
    intro h
    rw [List.foldl_cons, if_neg (h a (by simp))]
    exact ih z (fun e he => h e (by simp [he]))
theorem vF_same {l : List Ent} {k : Nat} {p c : Int} (hex : ∃ e, e ∈ l ∧ e.2.1 = (k : Int) ∧ e.1 / sizeF e.2.1 = p) (hall : ∀ e, e ∈ l → e.2.1 = (k : Int) → e.1 / sizeF e.2.1 = p → e.2.2 = c) : vF l k p = c := by
  unfold vF
  have key : ∀ (l : List Ent) (z : Int), (∀ e, e ∈ l → e.2.1 = (k : Int) → e.1 / sizeF e.2.1 = p → e.2.2 = c) →
      (l.foldl (fun acc (e : Ent) => if e.2.1 = (k : Int) ∧ e.1 / sizeF e.2.1 = p then e.2.2 else acc) z = c ∨ (l.foldl (fun acc (e : Ent) => if e.2.1 = (k : Int) ∧ e.1 / sizeF e.2.1 = p then e.2.2 else acc) z = z ∧ ¬ ∃ e, e ∈ l ∧ e.2.1 = (k : Int) ∧ e.1 / sizeF e.2.1 = p)) := by
    intro l
    induction l with
    | nil => intro z _; exact .inr ⟨rfl, by simp⟩
    | cons a t ih =>
      intro z h
      rw [List.foldl_cons]
      by_cases ha : a.2.1 = (k : Int) ∧ a.1 / sizeF a.2.1 = p
      · rw [if_pos ha]
        have hac := h a (by simp) ha.1 ha.2
        rcases ih a.2.2 (fun e he => h e (by simp [he])) with h1 | ⟨h1, _⟩
        · exact .inl h1
        · left; rw [h1]; exact hac
      · rw [if_neg ha]
        rcases ih z (fun e he => h e (by simp [he])) with h1 | ⟨h1, h2⟩
        · exact .inl h1
        · refine .inr ⟨h1, ?_⟩
          rintro ⟨e, he, h3⟩
          rcases List.mem_cons.1 he with rfl | he
          · exact ha h3
          · exact h2 ⟨e, he, h3⟩
  rcases key l 0 hall with h | ⟨_, h⟩
  · exact h
  · exact absurd hex h

/-- what the reference finds: the covering entry of most bits, the first of such -/
def BestAt (l : List Ent) (x : Int) (n : Nat) (best : Int) : Prop :=
  (best = -1 ∧ ∀ i, i < n → hasF (l.getD i (0, 0, 0)).1 (l.getD i (0, 0, 0)).2.1 x = false) ∨
  (∃ j : Nat, best = (j : Int) ∧ j < n ∧ hasF (l.getD j (0, 0, 0)).1 (l.getD j (0, 0, 0)).2.1 x = true ∧
    ∀ i, i < n → hasF (l.getD i (0, 0, 0)).1 (l.getD i (0, 0, 0)).2.1 x = true → (l.getD i (0, 0, 0)).2.1 ≤ (l.getD j (0, 0, 0)).2.1)
theorem tableOk_all {l : List Ent} (h : tableOkF l = true) : l.length ≤ 12 ∧ ∀ i, i < l.length → entOkF (l.getD i (0, 0, 0)) = true ∧ (i ≠ 0 → ordF (l.getD (i - 1) (0, 0, 0)) (l.getD i (0, 0, 0)) < 0) := by
  unfold tableOkF at h
  rw [Bool.and_eq_true, List.all_eq_true] at h
  refine ⟨by simpa using h.1, fun i hi => ?_⟩
  have := h.2 i (by simpa using hi)
  rw [Bool.and_eq_true, Bool.or_eq_true] at this
  refine ⟨this.1, fun h0 => ?_⟩
  rcases this.2 with h2 | h2
  · exact absurd (by simpa using h2) h0
  · simpa using h2
/-- one range stands ahead of another one -/
def ltE (a b : Ent) : Prop := a.1 < b.1 ∨ (a.1 = b.1 ∧ a.2.1 < b.2.1)
theorem ordF_lt {a b : Ent} : ordF a b < 0 ↔ ltE a b := by
  unfold ordF rcmpF cmpI ltE
  by_cases h1 : a.1 < b.1
  · simp [h1]
  · by_cases h2 : b.1 < a.1
    · simp [h1, h2]; omega
    · have h3 : a.1 = b.1 := by omega
      by_cases h4 : a.2.1 < b.2.1
      · simp [h3, h4]
      · by_cases h5 : b.2.1 < a.2.1
        · simp [h3, h4, h5]
        · simp [h3, h4, h5]
theorem tableOk_lt {l : List Ent} (h : tableOkF l = true) : ∀ (j : Nat), j < l.length → ∀ i, i < j → ltE (l.getD i (0, 0, 0)) (l.getD j (0, 0, 0)) := by
  obtain ⟨_, hall⟩ := tableOk_all h
  intro j
  induction j with
  | zero => intro _ i hi; omega
  | succ j ih =>
    intro hj i hi
    have hstep := ordF_lt.1 ((hall (j + 1) hj).2 (by omega))
    rw [Nat.add_sub_cancel] at hstep
    by_cases e : i = j
    · subst e; exact hstep
    · have := ih (by omega) i (by omega)
      unfold ltE at this hstep ⊢
      omega
theorem entOk_parts {e : Ent} (h : entOkF e = true) : 0 ≤ e.2.1 ∧ e.2.1 ≤ 8 ∧ 0 ≤ e.1 ∧ e.1 ≤ 255 ∧ e.1 % sizeF e.2.1 = 0 ∧ 1 ≤ e.2.2 ∧ e.2.2 ≤ 9 := by
  unfold entOkF rangeOkF addrF at h
  simp only [Bool.and_eq_true, decide_eq_true_eq] at h
  omega
theorem same_range {a b : Ent} (ha : entOkF a = true) (hb : entOkF b = true) (h1 : a.2.1 = b.2.1) (h2 : a.1 / sizeF a.2.1 = b.1 / sizeF b.2.1) : a.1 = b.1 := by
  obtain ⟨_, _, _, _, m1, _⟩ := entOk_parts ha
  obtain ⟨_, _, _, _, m2, _⟩ := entOk_parts hb
  have e1 := Int.emod_add_mul_ediv a.1 (sizeF a.2.1)
  have e2 := Int.emod_add_mul_ediv b.1 (sizeF b.2.1)
  rw [m1] at e1
  rw [m2] at e2
  rw [← e1, ← e2, h1, ← h2, h1]
theorem best_find {l : List Ent} {x best : Int} (h : tableOkF l = true) (hb : BestAt l x l.length best) :
    fV (vF l) x 9 = if best < 0 then 0 else (l.getD best.toNat (0, 0, 0)).2.2 := by
  obtain ⟨_, hall⟩ := tableOk_all h
  have hlt := tableOk_lt h
  have hmem : ∀ e, e ∈ l → ∃ i, i < l.length ∧ l.getD i (0, 0, 0) = e := fun e he => by
    obtain ⟨i, hi, rfl⟩ := List.getElem_of_mem he
    exact ⟨i, hi, by rw [List.getD_eq_getElem?_getD, List.getElem?_eq_getElem hi]; rfl⟩
  rcases hb with ⟨rfl, hno⟩ | ⟨j, rfl, hj, hhas, hmax⟩
  · rw [if_pos (by omega)]
    refine fV_none 9 (fun k hk => vF_zero fun e he hh => ?_)
    obtain ⟨i, hi, rfl⟩ := hmem e he
    have := hno i hi
    unfold hasF at this
    rw [decide_eq_false_iff_not] at this
    apply this
    rw [hh.2, hh.1]
  · rw [if_neg (by omega), Int.toNat_natCast]
    obtain ⟨ent, hent⟩ : ∃ e, l.getD j (0, 0, 0) = e := ⟨_, rfl⟩
    have hok := (hall j hj).1
    rw [hent] at hok hhas hmax ⊢
    obtain ⟨b0, b8, _, _, _, v1, _⟩ := entOk_parts hok
    obtain ⟨K, hK⟩ : ∃ K : Nat, ent.2.1 = (K : Int) := ⟨ent.2.1.toNat, by omega⟩
    have hkey : x / sizeF ent.2.1 = ent.1 / sizeF ent.2.1 := by unfold hasF at hhas; simpa using hhas
    refine fV_at (K := K) (by omega) ?_ 9 (by omega) (fun k h1 h2 => vF_zero fun e he hh => ?_)
    · refine vF_same ⟨ent, by rw [← hent, List.getD_eq_getElem?_getD, List.getElem?_eq_getElem hj]; exact List.getElem_mem _, hK, by rw [← hkey, hK]⟩ (fun e he h3 h4 => ?_)
      obtain ⟨i, hi, rfl⟩ := hmem e he
      have hoi := (hall i hi).1
      have hb' : (l.getD i (0, 0, 0)).2.1 = ent.2.1 := by rw [h3, hK]
      have hf' := same_range hoi hok hb' (by rw [h4, ← hkey, hK])
      have : i = j := by
        rcases Nat.lt_trichotomy i j with hij | hij | hij
        · have := hlt j hj i hij
          rw [hent] at this
          unfold ltE at this; omega
        · exact hij
        · have := hlt i hi j hij
          rw [hent] at this
          unfold ltE at this; omega
      subst this
      rw [hent]
    · obtain ⟨i, hi, rfl⟩ := hmem e he
      have hh2 : hasF (l.getD i (0, 0, 0)).1 (l.getD i (0, 0, 0)).2.1 x = true := by
        unfold hasF; rw [decide_eq_true_eq, hh.2, hh.1]
      have := hmax i hi hh2
      rw [hh.1, hK] at this
      omega
end Go.Proofs.Ytgpdkplpneklgaa
