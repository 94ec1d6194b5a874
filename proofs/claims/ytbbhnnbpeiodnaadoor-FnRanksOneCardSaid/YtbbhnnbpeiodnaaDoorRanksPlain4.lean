/- Plain: how many nets are still. -/
import Derived.Test.YtbbhnnbpeiodnaaDoorRanksPlain2
namespace Go.Proofs.YtbbhnnbpeiodnaaDoor
set_option linter.unusedVariables false
/-- none, or one of the ways that a house likes -/
def chs (l : List (List Int)) : List (List Int) := [] :: l
def sumTo (f : Nat → Nat) : Nat → Nat
  | 0 => 0
  | k + 1 => sumTo f k + f k
/-- how many states that begin so are still -/
def totP (r : List (List (List Int))) : Nat → List (List Int) → Nat
  | 0, pre => if stillF r pre = true then 1 else 0
  | d + 1, pre => sumTo (fun i => totP r d (pre ++ [(chs (r.getD pre.length [])).getD i []])) ((r.getD pre.length []).length + 1)
def manyF (r : List (List (List Int))) : Int := if ranksOk r = true then (totP r 3 [] : Nat) else -1
theorem manyF_yes {r : List (List (List Int))} (h : ranksOk r = true) : manyF r = (totP r 3 [] : Nat) := by unfold manyF; rw [if_pos h]
theorem manyF_no {r : List (List (List Int))} (h : ranksOk r = false) : manyF r = -1 := by unfold manyF; rw [if_neg (by rw [h]; simp)]
theorem sumTo_le {f : Nat → Nat} {B : Nat} (h : ∀ i, f i ≤ B) : ∀ n, sumTo f n ≤ n * B
  | 0 => by simp [sumTo]
  | n + 1 => by
    have := sumTo_le h n
    have := h n
    rw [Nat.add_mul]
    simp only [sumTo]; omega
theorem totP0_le (r : List (List (List Int))) (pre : List (List Int)) : totP r 0 pre ≤ 1 := by unfold totP; split <;> omega
theorem sumTo_mono {f : Nat → Nat} : ∀ {n k : Nat}, k ≤ n → sumTo f k ≤ sumTo f n
  | 0, k, h => by obtain rfl : k = 0 := by omega
                  exact Nat.le_refl _
  | n + 1, k, h => by
    rcases Nat.lt_or_ge k (n + 1) with h' | h'
    · exact Nat.le_trans (sumTo_mono (n := n) (by omega)) (by simp [sumTo])
    · obtain rfl : k = n + 1 := by omega
      exact Nat.le_refl _
theorem sumTo_le4 {f : Nat → Nat} {B n : Nat} (h : ∀ i, f i ≤ B) (hn : n ≤ 4) : sumTo f n ≤ 4 * B :=
  Nat.le_trans (sumTo_le h n) (Nat.mul_le_mul_right B hn)
/-- no house likes more than three ways -/
def Short3 (r : List (List (List Int))) : Prop := ∀ h, (r.getD h []).length ≤ 3
theorem totP1_le {r : List (List (List Int))} (h : Short3 r) (pre : List (List Int)) : totP r 1 pre ≤ 4 := by
  unfold totP; exact sumTo_le4 (fun i => totP0_le r _) (by have := h pre.length; omega)
theorem totP2_le {r : List (List (List Int))} (h : Short3 r) (pre : List (List Int)) : totP r 2 pre ≤ 16 := by
  unfold totP; exact sumTo_le4 (fun i => totP1_le h _) (by have := h pre.length; omega)
theorem totP3_le {r : List (List (List Int))} (h : Short3 r) (pre : List (List Int)) : totP r 3 pre ≤ 64 := by
  unfold totP; exact sumTo_le4 (fun i => totP2_le h _) (by have := h pre.length; omega)
theorem short3_of_ok {r : List (List (List Int))} (hr : ranksOk r = true) : Short3 r := fun h => by
  by_cases hh : h < 3
  · exact (rankOk_iff.1 (ranksOk_rank hr hh)).1
  · rw [List.getD_eq_getElem?_getD, List.getElem?_eq_none (by rw [ranksOk_len hr]; omega)]; simp
theorem sumTo_zero {f : Nat → Nat} : ∀ {n : Nat}, (∀ i, i < n → f i = 0) → sumTo f n = 0
  | 0, _ => rfl
  | n + 1, h => by simp only [sumTo]; rw [sumTo_zero (fun i hi => h i (by omega)), h n (by omega)]
theorem sumTo_one {f : Nat → Nat} {j : Nat} : ∀ {n : Nat}, j < n → f j = 1 → (∀ i, i < n → i ≠ j → f i = 0) → sumTo f n = 1
  | 0, h, _, _ => by omega
  | n + 1, h, hj, hi => by
    simp only [sumTo]
    by_cases e : j = n
    · subst e
      rw [sumTo_zero (fun i hh => hi i (by omega) (by omega)), hj]
    · rw [sumTo_one (by omega : j < n) hj (fun i hh hne => hi i (by omega) hne), hi n (by omega) (by omega)]
/-- what a ranking is that is ok, once more -/
theorem rankOk_iff2 {l : List (List Int)} {h : Int} : rankOk l h = true ↔ l.length ≤ 3 ∧ (∀ p, p ∈ l → wayOk p h = true) ∧ l.Nodup := by
  rw [rankOk_iff]
  constructor
  · rintro ⟨h1, h2⟩
    refine ⟨h1, fun p hp => ?_, ?_⟩
    · obtain ⟨k, hk, rfl⟩ := List.getElem_of_mem hp
      have := (h2 k hk).1
      rwa [List.getD_eq_getElem?_getD, List.getElem?_eq_getElem hk] at this
    · rw [List.Nodup, List.pairwise_iff_getElem]
      intro i j hi hj hij e
      have := (h2 j hj).2 i hij
      rw [List.getD_eq_getElem?_getD, List.getElem?_eq_getElem hi, List.getD_eq_getElem?_getD, List.getElem?_eq_getElem hj] at this
      exact this e
  · rintro ⟨h1, h2, h3⟩
    rw [List.Nodup, List.pairwise_iff_getElem] at h3
    refine ⟨h1, fun i hi => ⟨?_, fun k hk e => ?_⟩⟩
    · rw [List.getD_eq_getElem?_getD, List.getElem?_eq_getElem hi]; exact h2 _ (List.getElem_mem _)
    · rw [List.getD_eq_getElem?_getD, List.getElem?_eq_getElem (by omega : k < l.length), List.getD_eq_getElem?_getD, List.getElem?_eq_getElem hi] at e
      exact h3 k i (by omega) hi hk e
theorem find_congr {l : List (List Int)} {p q : List Int → Bool} : (∀ x, x ∈ l → p x = q x) → l.find? p = l.find? q := by
  induction l with
  | nil => intro _; rfl
  | cons a t ih =>
    intro h
    rw [List.find?_cons, List.find?_cons, h a (by simp), ih (fun x hx => h x (by simp [hx]))]
/-- who likes just ways by lesser houses picks by what these have -/
theorem pickF_pre {rank pre rest : List (List Int)} (h : ∀ p, p ∈ rank → 0 ≤ p.getD 1 0 ∧ p.getD 1 0 ≤ (pre.length : Int)) : pickF rank (pre ++ rest) = pickF rank pre := by
  unfold pickF
  rw [find_congr (p := pickHit (pre ++ rest)) (q := pickHit pre)]
  intro p hp
  obtain ⟨h1, h2⟩ := h p hp
  unfold pickHit
  by_cases h0 : p.getD 1 0 = 0
  · rw [decide_eq_true h0, Bool.true_or, Bool.true_or]
  · obtain ⟨q, hq⟩ : ∃ q, (p.getD 1 0 - 1).toNat = q := ⟨_, rfl⟩
    have hlt : q < pre.length := by omega
    have : (pre ++ rest).getD q [] = pre.getD q [] := by
      rw [List.getD_eq_getElem?_getD, List.getElem?_append_left hlt, ← List.getD_eq_getElem?_getD]
    rw [hq, this]
theorem pickF_in (rank ways : List (List Int)) : pickF rank ways ∈ chs rank := by
  unfold pickF chs
  cases hf : rank.find? (pickHit ways) with
  | none => simp
  | some x => have := List.mem_of_find?_eq_some hf; simp [this]
/-- one of the choices is the pick, just one -/
theorem choice_one {rank ways : List (List Int)} (hn : rank.Nodup) (h0 : [] ∉ rank) : ∃ j, j < rank.length + 1 ∧ (chs rank).getD j [] = pickF rank ways ∧ ∀ i, i < rank.length + 1 → i ≠ j → (chs rank).getD i [] ≠ pickF rank ways := by
  have hd : (chs rank).Nodup := by unfold chs; rw [List.nodup_cons]; exact ⟨h0, hn⟩
  obtain ⟨j, hj, e⟩ := List.getElem_of_mem (pickF_in rank ways)
  have hl : (chs rank).length = rank.length + 1 := by simp [chs]
  refine ⟨j, by omega, by rw [List.getD_eq_getElem?_getD, List.getElem?_eq_getElem hj]; exact e, fun i hi hne e2 => ?_⟩
  rw [List.getD_eq_getElem?_getD, List.getElem?_eq_getElem (by omega : i < (chs rank).length)] at e2
  have e3 : (chs rank)[i]'(by omega) = (chs rank)[j] := e2.trans e.symm
  rw [List.Nodup, List.pairwise_iff_getElem] at hd
  rcases Nat.lt_or_ge i j with h | h
  · exact hd i j (by omega) hj h e3
  · exact hd j i hj (by omega) (by omega) e3.symm
theorem stillF_three (r : List (List (List Int))) (a b c : List Int) :
    stillF r [a, b, c] = (decide (pickF (r.getD 0 []) [a, b, c] = a) && decide (pickF (r.getD 1 []) [a, b, c] = b) && decide (pickF (r.getD 2 []) [a, b, c] = c)) := by
  unfold stillF
  simp [List.range, List.range.loop, Bool.and_assoc]
/-- if each house likes just ways by lesser houses there is one still net -/
theorem tree_one {r : List (List (List Int))} (hr : ranksOk r = true) (hl : ∀ h : Nat, h < 3 → ∀ p, p ∈ r.getD h [] → p.getD 1 0 < (h : Int) + 1) : manyF r = 1 := by
  rw [manyF_yes hr]
  have hgood : ∀ h : Nat, h < 3 → ∀ p, p ∈ r.getD h [] → 0 ≤ p.getD 1 0 ∧ p.getD 1 0 ≤ (h : Int) := fun h hh p hp => by
    have h1 := hl h hh p hp
    obtain ⟨_, _, h2⟩ := good_of_ranksOk hr hh p hp
    omega
  have hnd : ∀ h : Nat, h < 3 → (r.getD h []).Nodup ∧ [] ∉ r.getD h [] := fun h hh => by
    obtain ⟨_, h2, h3⟩ := rankOk_iff2.1 (ranksOk_rank hr hh)
    refine ⟨h3, fun hm => ?_⟩
    obtain ⟨h4, _⟩ := good_of_ranksOk hr hh [] hm
    simp at h4
  have p0 : ∀ a b c, pickF (r.getD 0 []) [a, b, c] = pickF (r.getD 0 []) [] := fun a b c => pickF_pre (pre := []) (rest := [a, b, c]) (hgood 0 (by omega))
  have p1 : ∀ a b c, pickF (r.getD 1 []) [a, b, c] = pickF (r.getD 1 []) [a] := fun a b c => pickF_pre (pre := [a]) (rest := [b, c]) (hgood 1 (by omega))
  have p2 : ∀ a b c, pickF (r.getD 2 []) [a, b, c] = pickF (r.getD 2 []) [a, b] := fun a b c => pickF_pre (pre := [a, b]) (rest := [c]) (hgood 2 (by omega))
  have t0 : ∀ a b c, totP r 0 [a, b, c] = if pickF (r.getD 0 []) [] = a ∧ pickF (r.getD 1 []) [a] = b ∧ pickF (r.getD 2 []) [a, b] = c then 1 else 0 := fun a b c => by
    unfold totP
    rw [stillF_three, p0, p1, p2]
    congr 1
    rw [Bool.and_eq_true, Bool.and_eq_true, decide_eq_true_eq, decide_eq_true_eq, decide_eq_true_eq, and_assoc]
  have t1 : ∀ a b, totP r 1 [a, b] = if pickF (r.getD 0 []) [] = a ∧ pickF (r.getD 1 []) [a] = b then 1 else 0 := fun a b => by
    rw [totP]
    show sumTo (fun i => totP r 0 [a, b, (chs (r.getD 2 [])).getD i []]) ((r.getD 2 []).length + 1) = _
    by_cases h : pickF (r.getD 0 []) [] = a ∧ pickF (r.getD 1 []) [a] = b
    · rw [if_pos h]
      obtain ⟨j, hj, e, hne⟩ := choice_one (ways := [a, b]) (hnd 2 (by omega)).1 (hnd 2 (by omega)).2
      refine sumTo_one hj ?_ (fun i hi hij => ?_)
      · show totP r 0 [a, b, _] = 1
        rw [t0, if_pos ⟨h.1, h.2, e.symm⟩]
      · show totP r 0 [a, b, _] = 0
        rw [t0, if_neg (fun hh => hne i hi hij hh.2.2.symm)]
    · rw [if_neg h]
      exact sumTo_zero fun i _ => by
        show totP r 0 [a, b, _] = 0
        rw [t0, if_neg (fun hh => h ⟨hh.1, hh.2.1⟩)]
  have t2 : ∀ a, totP r 2 [a] = if pickF (r.getD 0 []) [] = a then 1 else 0 := fun a => by
    rw [totP]
    show sumTo (fun i => totP r 1 [a, (chs (r.getD 1 [])).getD i []]) ((r.getD 1 []).length + 1) = _
    by_cases h : pickF (r.getD 0 []) [] = a
    · rw [if_pos h]
      obtain ⟨j, hj, e, hne⟩ := choice_one (ways := [a]) (hnd 1 (by omega)).1 (hnd 1 (by omega)).2
      refine sumTo_one hj ?_ (fun i hi hij => ?_)
      · show totP r 1 [a, _] = 1
        rw [t1, if_pos ⟨h, e.symm⟩]
      · show totP r 1 [a, _] = 0
        rw [t1, if_neg (fun hh => hne i hi hij hh.2.symm)]
    · rw [if_neg h]
      exact sumTo_zero fun i _ => by
        show totP r 1 [a, _] = 0
        rw [t1, if_neg (fun hh => h hh.1)]
  have t3 : totP r 3 [] = 1 := by
    rw [totP]
    show sumTo (fun i => totP r 2 [(chs (r.getD 0 [])).getD i []]) ((r.getD 0 []).length + 1) = _
    obtain ⟨j, hj, e, hne⟩ := choice_one (ways := []) (hnd 0 (by omega)).1 (hnd 0 (by omega)).2
    refine sumTo_one hj ?_ (fun i hi hij => ?_)
    · show totP r 2 [_] = 1
      rw [t2, if_pos e.symm]
    · show totP r 2 [_] = 0
      rw [t2, if_neg (fun hh => hne i hi hij hh.symm)]
  rw [t3]; rfl
/-- just ways by lesser houses -/
def lessF (r : List (List (List Int))) : List (List (List Int)) := (List.range 3).map fun h => (r.getD h []).filter fun p => decide (p.getD 1 0 < (h : Int) + 1)
theorem lessF_getD (r : List (List (List Int))) (h : Nat) (hh : h < 3) : (lessF r).getD h [] = (r.getD h []).filter fun p => decide (p.getD 1 0 < (h : Int) + 1) := by
  unfold lessF
  rw [List.getD_eq_getElem?_getD, List.getElem?_map, List.getElem?_range hh]; rfl
theorem lessF_ok {r : List (List (List Int))} (hr : ranksOk r = true) : ranksOk (lessF r) = true := by
  unfold ranksOk
  rw [Bool.and_eq_true, List.all_eq_true]
  refine ⟨by simp [lessF], fun i hi => ?_⟩
  have hi' : i < 3 := by simpa [lessF] using hi
  rw [lessF_getD r i hi']
  obtain ⟨h1, h2, h3⟩ := rankOk_iff2.1 (ranksOk_rank hr hi')
  exact rankOk_iff2.2 ⟨Nat.le_trans (List.length_filter_le _ _) h1, fun p hp => h2 p (List.mem_filter.1 hp).1, h3.filter _⟩
theorem lessF_one {r : List (List (List Int))} (hr : ranksOk r = true) : manyF (lessF r) = 1 :=
  tree_one (lessF_ok hr) fun h hh p hp => by
    rw [lessF_getD r h hh] at hp
    have := (List.mem_filter.1 hp).2
    exact of_decide_eq_true this
theorem many_ring : manyF [[[1, 2, 0], [1, 0]], [[2, 3, 0], [2, 0]], [[3, 1, 0], [3, 0]]] = 0 := by decide +kernel
theorem many_two : manyF [[[1, 2, 0], [1, 0]], [[2, 1, 0], [2, 0]], []] = 2 := by decide +kernel
theorem many_direct : manyF [[[1, 0]], [[2, 0]], [[3, 0]]] = 1 := by decide +kernel
theorem many_none : manyF [[], [], []] = 1 := by decide +kernel
end Go.Proofs.YtbbhnnbpeiodnaaDoor
