/- Plain laws on lists of numbers: how l3Cmp orders them, and what a net of liked ways is. No program here. -/
import Derived.Test.YtlpibfafpljedaaGreatDoorNest
namespace Go.Proofs.YtlpibfafpljedaaGreatDoor
set_option linter.unusedVariables false

/-- the first place at which two lists differ decides -/
def cmpL : List Int → List Int → Int
  | a :: xs, b :: ys => if a < b then -1 else if b < a then 1 else cmpL xs ys
  | _, _ => 0
/-- the shorter list first, then number by number -/
def cmpF (l m : List Int) : Int := if l.length < m.length then -1 else if m.length < l.length then 1 else cmpL l m

theorem cmpL_zero : ∀ (l m : List Int), l.length = m.length → (cmpL l m = 0 ↔ l = m)
  | [], [], _ => by simp [cmpL]
  | a :: xs, b :: ys, h => by
    have ih := cmpL_zero xs ys (by simpa using h)
    unfold cmpL
    by_cases h1 : a < b
    · rw [if_pos h1]; constructor
      · intro e; omega
      · intro e; simp at e; omega
    · rw [if_neg h1]
      by_cases h2 : b < a
      · rw [if_pos h2]; constructor
        · intro e; omega
        · intro e; simp at e; omega
      · rw [if_neg h2, ih]
        have : a = b := by omega
        subst this; simp
  | [], _ :: _, h => by simp at h
  | _ :: _, [], h => by simp at h
theorem cmpF_zero (l m : List Int) : cmpF l m = 0 ↔ l = m := by
  unfold cmpF
  by_cases h1 : l.length < m.length
  · rw [if_pos h1]; constructor
    · intro e; omega
    · intro e; subst e; omega
  · rw [if_neg h1]
    by_cases h2 : m.length < l.length
    · rw [if_pos h2]; constructor
      · intro e; omega
      · intro e; subst e; omega
    · rw [if_neg h2]; exact cmpL_zero l m (by omega)
theorem cmpL_bd : ∀ (l m : List Int), -1 ≤ cmpL l m ∧ cmpL l m ≤ 1
  | [], _ => by simp [cmpL]
  | _ :: _, [] => by simp [cmpL]
  | a :: xs, b :: ys => by
    have ih := cmpL_bd xs ys
    unfold cmpL
    split
    · omega
    · split
      · omega
      · exact ih
theorem cmpF_bd (l m : List Int) : -1 ≤ cmpF l m ∧ cmpF l m ≤ 1 := by
  have := cmpL_bd l m
  unfold cmpF
  split
  · omega
  · split <;> omega
theorem cmpL_at : ∀ (k : Nat) (l m : List Int), k < l.length → k < m.length → (∀ j, j < k → l.getD j 0 = m.getD j 0) →
    cmpL l m = cmpL (l.drop k) (m.drop k)
  | 0, l, m, _, _, _ => by simp
  | k + 1, [], _, h, _, _ => by simp at h
  | k + 1, _ :: _, [], _, h, _ => by simp at h
  | k + 1, a :: xs, b :: ys, h1, h2, h => by
    have h0 : a = b := by simpa using h 0 (by omega)
    subst h0
    rw [List.drop_succ_cons, List.drop_succ_cons, ← cmpL_at k xs ys (by simpa using h1) (by simpa using h2) (fun j hj => by simpa using h (j + 1) (by omega))]
    conv => lhs; unfold cmpL
    rw [if_neg (by omega), if_neg (by omega)]
theorem cmpF_lt {l m : List Int} {k : Nat} (hl : l.length = m.length) (hk : k < l.length) (h : ∀ j, j < k → l.getD j 0 = m.getD j 0) (hlt : l.getD k 0 < m.getD k 0) : cmpF l m = -1 := by
  unfold cmpF
  rw [if_neg (by omega), if_neg (by omega), cmpL_at k l m hk (by omega) h, List.drop_eq_getElem_cons hk, List.drop_eq_getElem_cons (by omega : k < m.length)]
  unfold cmpL
  rw [if_pos]
  simpa [List.getElem?_eq_getElem hk, List.getElem?_eq_getElem (by omega : k < m.length)] using hlt
theorem cmpF_gt {l m : List Int} {k : Nat} (hl : l.length = m.length) (hk : k < l.length) (h : ∀ j, j < k → l.getD j 0 = m.getD j 0) (hlt : m.getD k 0 < l.getD k 0) : cmpF l m = 1 := by
  have e1 : l.getD k 0 = l[k] := by simp [List.getElem?_eq_getElem hk]
  have e2 : m.getD k 0 = m[k]'(by omega) := by simp [List.getElem?_eq_getElem (by omega : k < m.length)]
  rw [e1, e2] at hlt
  unfold cmpF
  rw [if_neg (by omega), if_neg (by omega), cmpL_at k l m hk (by omega) h, List.drop_eq_getElem_cons hk, List.drop_eq_getElem_cons (by omega : k < m.length)]
  unfold cmpL
  rw [if_neg (by omega), if_pos hlt]
theorem same_list {l m : List Int} (h : l.length = m.length) (hs : ∀ j, j < l.length → l.getD j 0 = m.getD j 0) : l = m := by
  apply List.ext_getElem h
  intro j h1 h2
  have := hs j h1
  simpa [List.getElem?_eq_getElem h1, List.getElem?_eq_getElem h2] using this
theorem cmpF_same {l m : List Int} (hl : l.length = m.length) (h : ∀ j, j < l.length → l.getD j 0 = m.getD j 0) : cmpF l m = 0 :=
  (cmpF_zero l m).2 (same_list hl h)

/-- the first place at which p holds, or -1 -/
def idxP {α : Type} (p : α → Bool) (l : List α) : Int := match l.findIdx? p with
  | some i => (i : Int)
  | none => -1
theorem idxP_hit {α : Type} {p : α → Bool} {l : List α} {k : Nat} (d : α) (hk : k < l.length) (hp : p (l.getD k d) = true) (hn : ∀ j, j < k → p (l.getD j d) = false) : idxP p l = k := by
  have : l.findIdx? p = some k := by
    rw [List.findIdx?_eq_some_iff_getElem]
    refine ⟨hk, by simpa [List.getElem?_eq_getElem hk] using hp, fun j hj => ?_⟩
    have := hn j hj
    simpa [List.getElem?_eq_getElem (by omega : j < l.length)] using this
  unfold idxP; rw [this]
theorem idxP_miss {α : Type} {p : α → Bool} {l : List α} (d : α) (hn : ∀ j, j < l.length → p (l.getD j d) = false) : idxP p l = -1 := by
  have : l.findIdx? p = none := by
    rw [List.findIdx?_eq_none_iff]
    intro x hx
    obtain ⟨j, hj, rfl⟩ := List.getElem_of_mem hx
    have := hn j hj
    simpa [List.getElem?_eq_getElem hj] using this
  unfold idxP; rw [this]
theorem idxP_nonneg {α : Type} (p : α → Bool) (l : List α) : decide (0 ≤ idxP p l) = l.any p := by
  unfold idxP
  cases h : l.findIdx? p with
  | none =>
    rw [List.findIdx?_eq_none_iff] at h
    have : l.any p = false := by rw [List.any_eq_false]; intro x hx; rw [h x hx]; simp
    rw [this]; simp
  | some i =>
    rw [List.findIdx?_eq_some_iff_getElem] at h
    obtain ⟨hi, hp, _⟩ := h
    have : l.any p = true := by rw [List.any_eq_true]; exact ⟨l[i], List.getElem_mem _, hp⟩
    rw [this]; simp
theorem any_eq {x : Int} {l : List Int} : l.any (fun y => x == y) = decide (x ∈ l) := by
  rw [Bool.eq_iff_iff, List.any_eq_true, decide_eq_true_eq]
  constructor
  · rintro ⟨y, hy, e⟩; simp at e; subst e; exact hy
  · intro h; exact ⟨x, h, by simp⟩

theorem ranksOk_bad {r : List (List (List Int))} {h : Nat} (hh : h < r.length) (hb : rankOk (r.getD h []) ((h : Int) + 1) = false) : ranksOk r = false := by
  unfold ranksOk
  rw [Bool.and_eq_false_iff]; right; rw [List.all_eq_false]
  exact ⟨h, by simpa using hh, by rw [hb]; simp⟩
theorem ranksOk_good {r : List (List (List Int))} (ha : ∀ h, h < r.length → rankOk (r.getD h []) ((h : Int) + 1) = true) : ranksOk r = decide (r.length = 3) := by
  unfold ranksOk
  have : ((List.range r.length).all fun i => rankOk (r.getD i []) ((i : Int) + 1)) = true := by
    rw [List.all_eq_true]; intro j hj; exact ha j (by simpa using hj)
  rw [this, Bool.and_true]
theorem rankOk_badway {l : List (List Int)} {h : Int} {i : Nat} (hi : i < l.length) (hb : wayOk (l.getD i []) h = false) : rankOk l h = false := by
  unfold rankOk
  rw [Bool.and_eq_false_iff]; right; rw [List.all_eq_false]
  exact ⟨i, by simpa using hi, by rw [hb]; simp⟩
theorem rankOk_badsame {l : List (List Int)} {h : Int} {i k : Nat} (hi : i < l.length) (hk : k < i) (hb : l.getD k [] = l.getD i []) : rankOk l h = false := by
  unfold rankOk
  rw [Bool.and_eq_false_iff]; right; rw [List.all_eq_false]
  refine ⟨i, by simpa using hi, ?_⟩
  have : l.getD i [] ∈ l.take i := by
    rw [← hb]
    have e : l.getD k [] = (l.take i)[k]'(by rw [List.length_take]; omega) := by rw [List.getElem_take]; simp [List.getElem?_eq_getElem (by omega : k < l.length)]
    rw [e]; exact List.getElem_mem _
  have h2 : (l.take i).contains (l.getD i []) = true := by rw [List.contains_eq_mem]; simpa using this
  rw [h2]; simp
theorem rankOk_long {l : List (List Int)} {h : Int} (hl : 3 < l.length) : rankOk l h = false := by
  unfold rankOk
  rw [Bool.and_eq_false_iff]; left
  simp; omega
theorem not_before {l : List (List Int)} {i : Nat} (hi : i < l.length) (h : ∀ k, k < i → l.getD k [] ≠ l.getD i []) : l.getD i [] ∉ l.take i := by
  intro hm
  obtain ⟨k, hk, e⟩ := List.getElem_of_mem hm
  rw [List.length_take] at hk
  exact h k (by omega) (by rw [← e, List.getElem_take]; simp [List.getElem?_eq_getElem (by omega : k < l.length)])
theorem rankOk_good {l : List (List Int)} {h : Int} (hl : l.length ≤ 3) (ha : ∀ i, i < l.length → wayOk (l.getD i []) h = true ∧ ∀ k, k < i → l.getD k [] ≠ l.getD i []) : rankOk l h = true := by
  unfold rankOk
  rw [Bool.and_eq_true, List.all_eq_true]
  refine ⟨by simp; omega, fun i hi => ?_⟩
  have hi' : i < l.length := by simpa using hi
  have hn := not_before hi' (ha i hi').2
  rw [(ha i hi').1]
  simpa using hn
/-- what a ranking is that is ok -/
theorem rankOk_iff {l : List (List Int)} {h : Int} : rankOk l h = true ↔ l.length ≤ 3 ∧ ∀ i, i < l.length → wayOk (l.getD i []) h = true ∧ ∀ k, k < i → l.getD k [] ≠ l.getD i [] := by
  constructor
  · intro hr
    refine ⟨?_, fun i hi => ⟨?_, fun k hk e => ?_⟩⟩
    · rcases Nat.lt_or_ge 3 l.length with h' | h'
      · rw [rankOk_long h'] at hr; cases hr
      · exact h'
    · cases hw : wayOk (l.getD i []) h with
      | true => rfl
      | false => rw [rankOk_badway hi hw] at hr; cases hr
    · rw [rankOk_badsame hi hk e] at hr; cases hr
  · intro ⟨h1, h2⟩; exact rankOk_good h1 h2

/-- whether ways are such of all houses: one that it likes, or none -/
def stateOk (rank : List (List Int)) (way : List Int) : Bool := decide (way = []) || decide (way ∈ rank)
def waysOk (r : List (List (List Int))) (ways : List (List Int)) : Bool :=
  decide (ways.length = r.length) && (List.range ways.length).all fun h => stateOk (r.getD h []) (ways.getD h [])
theorem waysOk_bad {r : List (List (List Int))} {ways : List (List Int)} {h : Nat} (hh : h < ways.length) (hb : stateOk (r.getD h []) (ways.getD h []) = false) : waysOk r ways = false := by
  unfold waysOk
  rw [Bool.and_eq_false_iff]; right; rw [List.all_eq_false]
  exact ⟨h, by simpa using hh, by rw [hb]; simp⟩
theorem waysOk_len {r : List (List (List Int))} {ways : List (List Int)} (hl : ways.length ≠ r.length) : waysOk r ways = false := by
  unfold waysOk
  rw [Bool.and_eq_false_iff]; left; simpa using hl
theorem waysOk_good {r : List (List (List Int))} {ways : List (List Int)} (hl : ways.length = r.length) (ha : ∀ h, h < ways.length → stateOk (r.getD h []) (ways.getD h []) = true) : waysOk r ways = true := by
  unfold waysOk
  rw [Bool.and_eq_true, List.all_eq_true]
  exact ⟨by simpa using hl, fun j hj => ha j (by simpa using hj)⟩
theorem stateOk_nil (rank : List (List Int)) : stateOk rank [] = true := by simp [stateOk]
theorem stateOk_mem {rank : List (List Int)} {i : Nat} {way : List Int} (hi : i < rank.length) (h : rank.getD i [] = way) : stateOk rank way = true := by
  have : way ∈ rank := by
    rw [← h]
    have e : rank.getD i [] = rank[i] := by simp [List.getElem?_eq_getElem hi]
    rw [e]; exact List.getElem_mem _
  simp [stateOk, this]
theorem stateOk_no {rank : List (List Int)} {way : List Int} (hn : way ≠ []) (h : ∀ i, i < rank.length → rank.getD i [] ≠ way) : stateOk rank way = false := by
  have : way ∉ rank := by
    intro hm
    obtain ⟨k, hk, e⟩ := List.getElem_of_mem hm
    exact h k hk (by rw [← e]; simp [List.getElem?_eq_getElem hk])
  simp [stateOk, this, hn]
/-- what is needed of a way that is liked -/
def GoodWay (p : List Int) : Prop := 2 ≤ p.length ∧ p.length ≤ 4 ∧ (p.getD 1 0 = 0 ∨ (1 ≤ p.getD 1 0 ∧ p.getD 1 0 ≤ 3))
theorem wayOk_step {p : List Int} {h : Int} (hw : wayOk p h = true) {i : Nat} (hi : i < p.length - 1) : 1 ≤ p.getD i 0 ∧ p.getD i 0 ≤ 3 ∧ ∀ j, j < i → p.getD j 0 ≠ p.getD i 0 := by
  unfold wayOk at hw
  rw [Bool.and_eq_true, List.all_eq_true] at hw
  have := hw.2 i (by simpa using hi)
  rw [Bool.and_eq_true, Bool.and_eq_true] at this
  obtain ⟨⟨h1, h2⟩, h3⟩ := this
  refine ⟨by simpa using h1, by simpa using h2, fun j hj e => ?_⟩
  have hm : p.getD i 0 ∈ p.take i := by
    rw [← e]
    have e2 : p.getD j 0 = (p.take i)[j]'(by rw [List.length_take]; omega) := by rw [List.getElem_take]; simp [List.getElem?_eq_getElem (by omega : j < p.length)]
    rw [e2]; exact List.getElem_mem _
  have hc : (p.take i).contains (p.getD i 0) = true := by rw [List.contains_eq_mem]; simpa using hm
  rw [hc] at h3; simp at h3
theorem wayOk_ends {p : List Int} {h : Int} (hw : wayOk p h = true) : 2 ≤ p.length ∧ p.getD 0 0 = h ∧ p.getD (p.length - 1) 0 = 0 := by
  unfold wayOk at hw
  rw [Bool.and_eq_true, Bool.and_eq_true, Bool.and_eq_true] at hw
  obtain ⟨⟨⟨h1, h2⟩, h3⟩, _⟩ := hw
  exact ⟨by simpa using h1, by simpa using h2, by simpa using h3⟩
theorem wayOk_goodWay {p : List Int} {h : Int} (hw : wayOk p h = true) : GoodWay p := by
  obtain ⟨h1, h2, h3⟩ := wayOk_ends hw
  refine ⟨h1, ?_, ?_⟩
  · rcases Nat.lt_or_ge 4 p.length with hl | hl
    · exfalso
      obtain ⟨a1, a2, a3⟩ := wayOk_step hw (i := 0) (by omega)
      obtain ⟨b1, b2, b3⟩ := wayOk_step hw (i := 1) (by omega)
      obtain ⟨c1, c2, c3⟩ := wayOk_step hw (i := 2) (by omega)
      obtain ⟨d1, d2, d3⟩ := wayOk_step hw (i := 3) (by omega)
      have e1 := b3 0 (by omega)
      have e2 := c3 0 (by omega)
      have e3 := c3 1 (by omega)
      have e4 := d3 0 (by omega)
      have e5 := d3 1 (by omega)
      have e6 := d3 2 (by omega)
      omega
    · exact hl
  · by_cases h2' : p.length = 2
    · left; rw [h2'] at h3; exact h3
    · right
      obtain ⟨b1, b2, _⟩ := wayOk_step hw (i := 1) (by omega)
      exact ⟨b1, b2⟩
theorem ranksOk_rank {r : List (List (List Int))} (hr : ranksOk r = true) {i : Nat} (hi : i < 3) : rankOk (r.getD i []) ((i : Int) + 1) = true := by
  unfold ranksOk at hr
  rw [Bool.and_eq_true, List.all_eq_true] at hr
  have hl : r.length = 3 := by simpa using hr.1
  exact hr.2 i (by rw [hl]; simpa using hi)
theorem ranksOk_len {r : List (List (List Int))} (hr : ranksOk r = true) : r.length = 3 := by
  unfold ranksOk at hr
  rw [Bool.and_eq_true] at hr
  simpa using hr.1
/-- the way of a house that is best of those that others have -/
def pickHit (ways : List (List Int)) (way : List Int) : Bool := decide (way.getD 1 0 = 0) || decide (ways.getD ((way.getD 1 0 - 1).toNat) [] = way.drop 1)
def pickF (rank ways : List (List Int)) : List Int := (rank.find? (pickHit ways)).getD []
theorem pickF_hit {rank ways : List (List Int)} {k : Nat} (hk : k < rank.length) (hp : pickHit ways (rank.getD k []) = true) (hn : ∀ j, j < k → pickHit ways (rank.getD j []) = false) : pickF rank ways = rank.getD k [] := by
  have e : rank.getD k [] = rank[k] := by simp [List.getElem?_eq_getElem hk]
  have : rank.find? (pickHit ways) = some rank[k] := by
    rw [List.find?_eq_some_iff_getElem]
    refine ⟨by rw [← e]; exact hp, k, hk, rfl, fun j hj => ?_⟩
    have := hn j hj
    have e : rank.getD j [] = rank[j] := by simp [List.getElem?_eq_getElem (by omega : j < rank.length)]
    rw [e] at this; rw [this]; rfl
  unfold pickF; rw [this, e]; rfl
theorem pickF_miss {rank ways : List (List Int)} (hn : ∀ j, j < rank.length → pickHit ways (rank.getD j []) = false) : pickF rank ways = [] := by
  have : rank.find? (pickHit ways) = none := by
    rw [List.find?_eq_none]
    intro x hx
    obtain ⟨j, hj, rfl⟩ := List.getElem_of_mem hx
    have := hn j hj
    have e : rank.getD j [] = rank[j] := by simp [List.getElem?_eq_getElem (by omega : j < rank.length)]
    rw [e] at this; rw [this]; simp
  unfold pickF; rw [this]; rfl

def stillF (r : List (List (List Int))) (ways : List (List Int)) : Bool := (List.range 3).all fun h => decide (pickF (r.getD h []) ways = ways.getD h [])
theorem stillF_bad {r : List (List (List Int))} {ways : List (List Int)} {h : Nat} (hh : h < 3) (hb : pickF (r.getD h []) ways ≠ ways.getD h []) : stillF r ways = false := by
  unfold stillF
  rw [List.all_eq_false]
  exact ⟨h, by simpa using hh, by rw [decide_eq_false hb]; exact Bool.false_ne_true⟩
theorem stillF_good {r : List (List (List Int))} {ways : List (List Int)} (ha : ∀ h, h < 3 → pickF (r.getD h []) ways = ways.getD h []) : stillF r ways = true := by
  unfold stillF
  rw [List.all_eq_true]
  intro h hh
  exact decide_eq_true (ha h (by simpa using hh))
theorem good_of_ranksOk {r : List (List (List Int))} (hr : ranksOk r = true) {h : Nat} (hh : h < 3) : ∀ p, p ∈ r.getD h [] → GoodWay p := by
  intro p hp
  obtain ⟨_, h2⟩ := rankOk_iff.1 (ranksOk_rank hr hh)
  obtain ⟨k, hk, rfl⟩ := List.getElem_of_mem hp
  have e : (r.getD h []).getD k [] = (r.getD h [])[k] := by rw [List.getD_eq_getElem?_getD, List.getElem?_eq_getElem hk]; rfl
  have := (h2 k hk).1
  rw [e] at this
  exact wayOk_goodWay this
end Go.Proofs.YtlpibfafpljedaaGreatDoor
