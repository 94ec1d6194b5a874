/- A part of the proof; packed by a program of mine out of my texts. -/
import Derived.Test.YtnecdeaikmhanaaGreatDoorPE0
import Derived.Test.YtnecdeaikmhanaaGreatDoorPE1
import Derived.Test.YtnecdeaikmhanaaGreatDoorPE2
import Derived.Test.YtnecdeaikmhanaaGreatDoorPE3
import Derived.Test.YtnecdeaikmhanaaGreatDoorPE4
import Derived.Test.YtnecdeaikmhanaaGreatDoorPE5
import Derived.Test.YtnecdeaikmhanaaGreatDoorPE6
import Derived.Test.YtnecdeaikmhanaaGreatDoorPE7
import Derived.Test.YtnecdeaikmhanaaGreatDoorPE8
import Derived.Test.YtnecdeaikmhanaaGreatDoorPE9
import Derived.Test.YtnecdeaikmhanaaGreatDoorPE10
import Derived.Test.YtnecdeaikmhanaaGreatDoorPE12
import Derived.Deep.LoopGhost
import Derived.Deep.QuietTactic
import Derived.BigQuiet
import Derived.OwnWalk
import Derived.Lib.Join
import Derived.WalkLawsBesides
import Derived.Lib.SmallJoins
import Derived.Lib.ConvBytes
import Derived.Deep.DeepCutAuto
import Derived.Shelf.Strings.Builder1
import Derived.Shelf.Strings.Builder2
import Derived.Shelf.Strings.OnBuilder
import Derived.Shelf.Strconv.Atoi
import Derived.Shelf.Strconv.Itoa0
import Derived.Shelf.Strconv.Itoa1
import Derived.Shelf.LaysM
import Derived.Shelf.Strconv.Itoa2
import Derived.Shelf.Strconv.Itoa3
import Derived.Shelf.Strconv.AtoiErrFast
import Derived.Shelf.Strconv.ParseIntEmpty
import Derived.Shelf.Strconv.AtoiFail
import Derived.Shelf.Strconv.Clone
import Derived.Shelf.Strconv.SyntaxError
import Derived.Shelf.LaysC
import Derived.Shelf.Strconv.ToError
import Derived.Shelf.Strconv.Lower
import Derived.Shelf.Strconv.ParseUint10
import Derived.Shelf.Strconv.ParseUint10Empty
import Derived.Shelf.Strconv.ParseUint10Any
import Derived.Shelf.Strconv.ParseInt10
import Derived.Shelf.Strconv.AtoiLong
import Derived.Shelf.Strconv.AtoiInnerAll
import Derived.Shelf.Strconv.RangeError
import Derived.Shelf.Strconv.ToErrorRange
import Derived.Shelf.Strconv.AtoiAll
import Derived.Shelf.Strconv.ErrVarAll
import Derived.Shelf.Strings.Search1
import Derived.Shelf.Strings.Search2
import Derived.Shelf.Strings.Search3
import Derived.Shelf.Strings.Cut
import Derived.Shelf.Strings.Count
import Derived.Shelf.Strings.Shaped
import Derived.Shelf.Strings.Split
import Derived.Shelf.Unicode.DecodeSlow
import Derived.Test.YtnecdeaikmhanaaGreatDoorProg
namespace Go.Proofs.YtnecdeaikmhanaaGreatDoor
set_option linter.unusedVariables false
def custV (rs : List (List Int)) (i : Nat) (way : List Int) : List Int := if way.getD 1 0 = 0 ∨ ofF rs ((i : Int) + 1) (way.getD 1 0) = 1 then way else []
theorem second_if (way : List Int) : (if 1 < way.length then way.getD 1 0 else 0) = way.getD 1 0 := by
  split
  · rfl
  · rename_i h
    rw [List.getD_eq_getElem?_getD, List.getElem?_eq_none (by omega)]
    rfl
theorem tells_cust {rs : List (List Int)} {way : List Int} {b : Nat} {t : Int} (h1 : ofF rs ((b : Int) + 1) t ≠ 1) (h : tellsF rs way ((b : Int) + 1) t = true) : custV rs b way = way ∧ way ≠ [] := by
  unfold tellsF mayF at h
  rw [second_if] at h
  simp only [Bool.and_eq_true, Bool.or_eq_true, decide_eq_true_eq, Bool.not_eq_true', decide_eq_false_iff_not] at h
  obtain ⟨⟨h2, _⟩, _, h3⟩ := h
  refine ⟨?_, h2⟩
  unfold custV
  rw [if_pos]
  rcases h3 with (h3 | h3) | h3
  · exact .inl h3
  · exact .inr h3
  · exact absurd h3 h1
theorem cust_in {rs : List (List Int)} {way : List Int} {b : Nat} (h : custV rs b way ≠ []) : custV rs b way = way := by
  unfold custV at h ⊢
  split
  · rfl
  · rename_i h'
    rw [if_neg h'] at h
    exact absurd rfl h
theorem tells_same {rs : List (List Int)} {wa wb : List Int} {b : Nat} {t : Int} (h1 : ofF rs ((b : Int) + 1) t ≠ 1) (he : custV rs b wa = custV rs b wb) (h : tellsF rs wa ((b : Int) + 1) t = true) : wa = wb := by
  obtain ⟨e1, e2⟩ := tells_cust h1 h
  have h3 : custV rs b wb ≠ [] := by rw [← he, e1]; exact e2
  rw [← e1, he, cust_in h3]
theorem fold_same {α : Type} (f g : α → Nat → α) : ∀ (n : Nat) (z : α), (∀ b, b < n → ∀ x, f x b = g x b) → (List.range n).foldl f z = (List.range n).foldl g z
  | 0, _, _ => rfl
  | n + 1, z, h => by rw [foldl_range_succ, foldl_range_succ, fold_same f g n z (fun b hb => h b (by omega)), h n (by omega)]
theorem row_cust {rs wa wb : List (List Int)} {n : Nat} {house rel : Int} (hn : rs.length = n) (hb1 : ∀ b, b < n → ofF rs house ((b : Int) + 1) = rel → ofF rs ((b : Int) + 1) house ≠ 1)
    (h : ∀ b, b < n → ofF rs house ((b : Int) + 1) = rel → custV rs b (wa.getD b []) = custV rs b (wb.getD b [])) : row31 rs wa house rel = row31 rs wb house rel := by
  unfold row31
  rw [hn]
  refine fold_same _ _ n _ (fun b hb x => ?_)
  unfold step31
  by_cases hr : ofF rs house ((b : Int) + 1) = rel
  · have e := h b hb hr
    have h1 := hb1 b hb hr
    cases ha : tellsF rs (wa.getD b []) ((b : Int) + 1) house
    · cases hb' : tellsF rs (wb.getD b []) ((b : Int) + 1) house
      · rw [if_neg (fun h' => by cases h'.2), if_neg (fun h' => by cases h'.2)]
      · have := tells_same h1 e.symm hb'
        rw [this, ha] at hb'
        cases hb'
    · have := tells_same h1 e ha
      rw [← this, ha]
  · rw [if_neg (fun h' => hr h'.1), if_neg (fun h' => hr h'.1)]
theorem row31_second {rs ways : List (List Int)} {n : Nat} {house rel : Int} (hn : rs.length = n) (hh : Head31 ways n) (h : row31 rs ways house rel ≠ []) : ofF rs house ((row31 rs ways house rel).getD 1 0) = rel ∧ (row31 rs ways house rel).getD 1 0 ≠ 0 := by
  rw [row31_ann hn] at h ⊢
  split at h
  · exact absurd rfl h
  · rename_i he
    rw [if_neg he]
    obtain ⟨b, hb, hB, e⟩ := annF_mem (minF_in he)
    rw [e]
    unfold annB at hB
    rw [Bool.and_eq_true, decide_eq_true_eq] at hB
    have hne : ways.getD b [] ≠ [] := by
      intro e'
      have := hB.2
      unfold tellsF at this
      rw [e'] at this
      simp at this
    have h0 := hh b hb hne
    have e1 : (house :: ways.getD b []).getD 1 0 = (b : Int) + 1 := by rw [← h0]; simp
    rw [e1]
    exact ⟨hB.1, by omega⟩
theorem pick_cust {rs ways : List (List Int)} {n i : Nat} {home : Int} (hn : rs.length = n) (hh : Head31 ways n) (hne : (i : Int) + 1 ≠ home) : custV rs i (pick31 rs ways home ((i : Int) + 1)) = row31 rs ways ((i : Int) + 1) 1 := by
  unfold pick31
  rw [if_neg hne]
  by_cases h1 : row31 rs ways ((i : Int) + 1) 1 ≠ []
  · rw [if_pos h1]
    have := row31_second hn hh h1
    unfold custV
    rw [if_pos (.inr this.1)]
  · rw [if_neg h1]
    have h1' : row31 rs ways ((i : Int) + 1) 1 = [] := by simpa using h1
    have key : ∀ rel : Int, rel ≠ 1 → custV rs i (row31 rs ways ((i : Int) + 1) rel) = [] := fun rel hr => by
      by_cases h2 : row31 rs ways ((i : Int) + 1) rel = []
      · rw [h2]; unfold custV; split <;> rfl
      · have := row31_second hn hh h2
        unfold custV
        rw [if_neg]
        intro h'
        rcases h' with h' | h'
        · exact this.2 h'
        · rw [this.1] at h'; exact hr h'
    rw [h1']
    split
    · exact key 2 (by omega)
    · exact key 3 (by omega)
def Mirrored (rs : List (List Int)) (n : Nat) : Prop := ∀ i b, i < n → b < n → ofF rs ((b : Int) + 1) ((i : Int) + 1) = backF (ofF rs ((i : Int) + 1) ((b : Int) + 1))
theorem relsOk_mirror {rs : List (List Int)} {n : Nat} (hn : rs.length = n) (h : relsOkF rs = true) : Mirrored rs n := fun i b hi hb => by
  subst hn
  unfold relsOkF at h
  rw [Bool.and_eq_true, List.all_eq_true] at h
  have h1 := h.1 i (List.mem_range.2 hi)
  rw [Bool.and_eq_true, List.all_eq_true] at h1
  have h2 := h1.2 b (List.mem_range.2 hb)
  unfold relOkF at h2
  simp only [Bool.and_eq_true, decide_eq_true_eq] at h2
  have h3 := h2.1.2
  unfold ofF
  rw [show ((b : Int) + 1 - 1).toNat = b by omega, show ((i : Int) + 1 - 1).toNat = i by omega]
  exact h3
theorem net_upd {rs : List (List Int)} {home : Int} {n i : Nat} (hi : i < n) (t : Nat) : (endTo31 rs home n (t + 1)).getD i [] = if t % n = i then pick31 rs (endTo31 rs home n t) home ((i : Int) + 1) else (endTo31 rs home n t).getD i [] := by
  rw [endTo31_succ]
  unfold net31
  rw [map_range_getD _ _ _ hi]
  by_cases h : t % n = i
  · rw [if_pos (by omega), if_pos h, h]
  · rw [if_neg (by omega), if_neg h]
theorem net_last {rs : List (List Int)} {home : Int} {n i : Nat} (hi : i < n) (K : Nat) : ∀ d, ∃ u, K * n ≤ u ∧ (endTo31 rs home n (K * n + i + 1 + d)).getD i [] = pick31 rs (endTo31 rs home n u) home ((i : Int) + 1)
  | 0 => ⟨K * n + i, by omega, by rw [Nat.add_zero, net_upd hi, if_pos (mod_round hi)]⟩
  | d + 1 => by
    obtain ⟨u, h1, h2⟩ := net_last (rs := rs) (home := home) hi K d
    rw [← Nat.add_assoc, net_upd hi]
    by_cases h : (K * n + i + 1 + d) % n = i
    · exact ⟨K * n + i + 1 + d, by omega, by rw [if_pos h]⟩
    · exact ⟨u, h1, by rw [if_neg h, h2]⟩
theorem net_late {rs : List (List Int)} {home : Int} {n i : Nat} (hi : i < n) {K t : Nat} (ht : (K + 1) * n ≤ t) : ∃ u, K * n ≤ u ∧ (endTo31 rs home n t).getD i [] = pick31 rs (endTo31 rs home n u) home ((i : Int) + 1) := by
  rw [Nat.succ_mul] at ht
  obtain ⟨d, rfl⟩ : ∃ d, t = K * n + i + 1 + d := ⟨t - (K * n + i + 1), by omega⟩
  exact net_last hi K d
theorem nodup_short {n : Nat} {l : List Int} (hnd : l.Nodup) (hin : ∀ z, z ∈ l → 1 ≤ z ∧ z ≤ (n : Int)) : l.length ≤ n := by
  rcases Nat.lt_or_ge n l.length with h | h
  · exfalso
    have hmem : ∀ i, i < l.length → l.getD i 0 ∈ l := fun i hi => by rw [List.getD_eq_getElem?_getD, List.getElem?_eq_getElem hi]; exact List.getElem_mem hi
    obtain ⟨i, j, hij, hj, e⟩ := pigeon n (fun i => l.getD i 0) (fun i hi => hin _ (hmem i (by omega)))
    simp only [List.getD_eq_getElem?_getD, List.getElem?_eq_getElem (show i < l.length by omega), List.getElem?_eq_getElem (show j < l.length by omega), Option.getD_some] at e
    exact List.pairwise_iff_getElem.1 hnd i j (by omega) (by omega) hij e
  · exact h
def trF (k : Nat) (l : List Int) : List Int := if l.length ≤ k then l else []
theorem trF_nil (k : Nat) : trF k [] = [] := by unfold trF; split <;> rfl
theorem trF_zero (l : List Int) : trF 0 l = [] := by
  unfold trF
  split
  · rename_i h
    exact List.length_eq_zero_iff.1 (by omega)
  · rfl
theorem trF_in {k : Nat} {l : List Int} (h : trF k l ≠ []) : trF k l = l ∧ l.length ≤ k := by
  unfold trF at h ⊢
  split
  · rename_i h'; exact ⟨rfl, h'⟩
  · rename_i h'; rw [if_neg h'] at h; exact absurd rfl h
theorem cmp_longer {a b : List Int} (h : b.length < a.length) : ¬ cmpF a b < 0 := by
  unfold cmpF
  rw [if_neg (by omega), if_pos h]
  omega
theorem cmp_shorter {a b : List Int} (h : a.length < b.length) : cmpF a b < 0 := by
  unfold cmpF
  rw [if_pos h]
  omega
theorem row_tr {rs wa wb : List (List Int)} {n k : Nat} {house rel : Int} (hn : rs.length = n)
    (h : ∀ b, b < n → ofF rs house ((b : Int) + 1) = rel → (tellsF rs (wb.getD b []) ((b : Int) + 1) house = true ↔ (tellsF rs (wa.getD b []) ((b : Int) + 1) house = true ∧ (wa.getD b []).length ≤ k)) ∧ (tellsF rs (wb.getD b []) ((b : Int) + 1) house = true → wb.getD b [] = wa.getD b [])) :
    row31 rs wb house rel = trF (k + 1) (row31 rs wa house rel) := by
  unfold row31
  rw [hn]
  have key : ∀ m, m ≤ n → (List.range m).foldl (step31 rs wb house rel) [] = trF (k + 1) ((List.range m).foldl (step31 rs wa house rel) []) := by
    intro m
    induction m with
    | zero => intro _; exact (trF_nil _).symm
    | succ m ih =>
      intro hm
      rw [foldl_range_succ, foldl_range_succ, ih (by omega)]
      obtain ⟨best, hb⟩ : ∃ l, (List.range m).foldl (step31 rs wa house rel) [] = l := ⟨_, rfl⟩
      rw [hb]
      unfold step31
      by_cases hr : ofF rs house ((m : Int) + 1) = rel
      · obtain ⟨h1, h2⟩ := h m (by omega) hr
        by_cases hta : tellsF rs (wa.getD m []) ((m : Int) + 1) house = true
        · rw [if_pos (⟨hr, hta⟩ : _ ∧ _)]
          by_cases hl : (wa.getD m []).length ≤ k
          · have htb := h1.2 ⟨hta, hl⟩
            rw [if_pos (⟨hr, htb⟩ : _ ∧ _), h2 htb]
            have hc : trF (k + 1) (house :: wa.getD m []) = house :: wa.getD m [] := by unfold trF; rw [if_pos (by rw [List.length_cons]; omega)]
            by_cases hbl : best.length ≤ k + 1
            · have : trF (k + 1) best = best := by unfold trF; rw [if_pos hbl]
              rw [this]
              split
              · exact hc.symm
              · exact this.symm
            · have : trF (k + 1) best = [] := by unfold trF; rw [if_neg hbl]
              rw [this, if_pos (.inl rfl), if_pos (.inr (cmp_shorter (by rw [List.length_cons]; omega)))]
              exact hc.symm
          · have htb : ¬ tellsF rs (wb.getD m []) ((m : Int) + 1) house = true := fun h' => hl (h1.1 h').2
            rw [if_neg (fun h' => htb h'.2)]
            have hc : trF (k + 1) (house :: wa.getD m []) = [] := by unfold trF; rw [if_neg (by rw [List.length_cons]; omega)]
            split
            · rename_i hcond
              rw [hc]
              rcases hcond with e | e
              · rw [e, trF_nil]
              · unfold trF
                rw [if_neg]
                intro hbl
                exact cmp_longer (by rw [List.length_cons]; omega) e
            · rfl
        · have htb : ¬ tellsF rs (wb.getD m []) ((m : Int) + 1) house = true := fun h' => hta (h1.1 h').1
          rw [if_neg (fun h' => htb h'.2), if_neg (fun h' => hta h'.2)]
      · rw [if_neg (fun h' => hr h'.1), if_neg (fun h' => hr h'.1)]
  exact key n (Nat.le_refl _)
theorem row_trc {rs wa : List (List Int)} {n k : Nat} {house rel : Int} (hn : rs.length = n) (hb1 : ∀ b, b < n → ofF rs house ((b : Int) + 1) = rel → ofF rs ((b : Int) + 1) house ≠ 1) :
    row31 rs ((List.range n).map fun b => trF k (custV rs b (wa.getD b []))) house rel = trF (k + 1) (row31 rs wa house rel) := by
  refine row_tr hn (fun b hb hr => ?_)
  rw [map_range_getD _ n b hb]
  have h1 := hb1 b hb hr
  have hne : ∀ w, tellsF rs w ((b : Int) + 1) house = true → w ≠ [] := fun w hw => (tells_cust h1 hw).2
  have fwd : tellsF rs (trF k (custV rs b (wa.getD b []))) ((b : Int) + 1) house = true → trF k (custV rs b (wa.getD b [])) = wa.getD b [] ∧ (wa.getD b []).length ≤ k := fun h' => by
    obtain ⟨e1, e2⟩ := trF_in (hne _ h')
    have e3 : custV rs b (wa.getD b []) ≠ [] := by rw [← e1]; exact hne _ h'
    have e4 := cust_in e3
    rw [e4] at e2
    exact ⟨by rw [e1, e4], e2⟩
  refine ⟨⟨fun h' => ?_, fun h' => ?_⟩, fun h' => (fwd h').1⟩
  · obtain ⟨e1, e2⟩ := fwd h'
    rw [e1] at h'
    exact ⟨h', e2⟩
  · rw [(tells_cust h1 h'.1).1]
    unfold trF
    rw [if_pos h'.2]
    exact h'.1
theorem row_tra {rs wa : List (List Int)} {n k : Nat} {house rel : Int} (hn : rs.length = n) :
    row31 rs ((List.range n).map fun b => trF k (wa.getD b [])) house rel = trF (k + 1) (row31 rs wa house rel) := by
  refine row_tr hn (fun b hb hr => ?_)
  rw [map_range_getD _ n b hb]
  have hne : ∀ w, tellsF rs w ((b : Int) + 1) house = true → w ≠ [] := fun w hw e => by
    unfold tellsF at hw
    rw [e] at hw
    simp at hw
  have fwd : tellsF rs (trF k (wa.getD b [])) ((b : Int) + 1) house = true → trF k (wa.getD b []) = wa.getD b [] ∧ (wa.getD b []).length ≤ k := fun h' => trF_in (hne _ h')
  refine ⟨⟨fun h' => ?_, fun h' => ?_⟩, fun h' => (fwd h').1⟩
  · obtain ⟨e1, e2⟩ := fwd h'
    rw [e1] at h'
    exact ⟨h', e2⟩
  · unfold trF
    rw [if_pos h'.2]
    exact h'.1
theorem map_same {n : Nat} {f g : Nat → List Int} (h : ∀ b, b < n → f b = g b) : (List.range n).map f = (List.range n).map g := List.map_congr_left fun b hb => h b (List.mem_range.1 hb)
theorem cust_tr {rs : List (List Int)} {home : Int} {n : Nat} (hn : rs.length = n) (hm : Mirrored rs n) :
    ∀ k i, i < n → ∀ t t', k * n ≤ t → k * n ≤ t' → trF k (custV rs i ((endTo31 rs home n t).getD i [])) = trF k (custV rs i ((endTo31 rs home n t').getD i []))
  | 0, i, _, _, _, _, _ => by rw [trF_zero, trF_zero]
  | k + 1, i, hi, t, t', ht, ht' => by
    obtain ⟨u, hu, e⟩ := net_late (rs := rs) (home := home) hi ht
    obtain ⟨u', hu', e'⟩ := net_late (rs := rs) (home := home) hi ht'
    rw [e, e']
    by_cases hh : (i : Int) + 1 = home
    · rw [hh, pick31_home, pick31_home]
    · have hb1 : ∀ b, b < n → ofF rs ((i : Int) + 1) ((b : Int) + 1) = 1 → ofF rs ((b : Int) + 1) ((i : Int) + 1) ≠ 1 := fun b hb hr => by rw [hm i b hi hb, hr]; decide
      rw [pick_cust hn (endTo31_head u) hh, pick_cust hn (endTo31_head u') hh, ← row_trc hn hb1, ← row_trc hn hb1, map_same (fun b hb => cust_tr hn hm k b hb u u' hu hu')]
theorem net_short {rs : List (List Int)} {home : Int} {n i : Nat} (hn : rs.length = n) (hi : i < n) (t : Nat) : ((endTo31 rs home n t).getD i []).length ≤ n :=
  nodup_short (endTo31_good hn t i hi) ((endTo31_ways (home := home) hn (by omega) t).inn i hi)
theorem cust_rest {rs : List (List Int)} {home : Int} {n : Nat} (hn : rs.length = n) (hm : Mirrored rs n) {i t t' : Nat} (hi : i < n) (ht : n * n ≤ t) (ht' : n * n ≤ t') : custV rs i ((endTo31 rs home n t).getD i []) = custV rs i ((endTo31 rs home n t').getD i []) := by
  have h := cust_tr (home := home) hn hm n i hi t t' ht ht'
  have key : ∀ t, trF n (custV rs i ((endTo31 rs home n t).getD i [])) = custV rs i ((endTo31 rs home n t).getD i []) := fun t => by
    by_cases he : custV rs i ((endTo31 rs home n t).getD i []) = []
    · rw [he, trF_nil]
    · rw [cust_in he]
      unfold trF
      rw [if_pos (net_short hn hi t)]
  rw [key, key] at h
  exact h
theorem net_tr {rs : List (List Int)} {home : Int} {n : Nat} (hn : rs.length = n) (hm : Mirrored rs n) :
    ∀ k i, i < n → ∀ t t', (n + k) * n ≤ t → (n + k) * n ≤ t' → trF k ((endTo31 rs home n t).getD i []) = trF k ((endTo31 rs home n t').getD i [])
  | 0, i, hi, _, _, _, _ => by rw [trF_zero, trF_zero]
  | k + 1, i, hi, t, t', ht, ht' => by
    rw [← Nat.add_assoc] at ht ht'
    obtain ⟨u, hu, e⟩ := net_late (rs := rs) (home := home) hi ht
    obtain ⟨u', hu', e'⟩ := net_late (rs := rs) (home := home) hi ht'
    rw [e, e']
    by_cases hh : (i : Int) + 1 = home
    · rw [hh, pick31_home, pick31_home]
    · have hle : n * n ≤ (n + k) * n := Nat.mul_le_mul_right n (by omega)
      have r1 : row31 rs (endTo31 rs home n u) ((i : Int) + 1) 1 = row31 rs (endTo31 rs home n u') ((i : Int) + 1) 1 := row_cust hn (fun b hb hr => by rw [hm i b hi hb, hr]; decide) (fun b hb _ => cust_rest hn hm hb (by omega) (by omega))
      have r2 : row31 rs (endTo31 rs home n u) ((i : Int) + 1) 2 = row31 rs (endTo31 rs home n u') ((i : Int) + 1) 2 := row_cust hn (fun b hb hr => by rw [hm i b hi hb, hr]; decide) (fun b hb _ => cust_rest hn hm hb (by omega) (by omega))
      have r3 : trF (k + 1) (row31 rs (endTo31 rs home n u) ((i : Int) + 1) 3) = trF (k + 1) (row31 rs (endTo31 rs home n u') ((i : Int) + 1) 3) := by
        rw [← row_tra hn, ← row_tra hn, map_same (fun b hb => net_tr hn hm k b hb u u' hu hu')]
      unfold pick31
      rw [r1, r2, if_neg hh, if_neg hh]
      split
      · rfl
      · split
        · rfl
        · exact r3
theorem net_rest {rs : List (List Int)} {home : Int} {n i t t' : Nat} (hn : rs.length = n) (hm : Mirrored rs n) (hi : i < n) (ht : (n + n) * n ≤ t) (ht' : (n + n) * n ≤ t') : (endTo31 rs home n t).getD i [] = (endTo31 rs home n t').getD i [] := by
  have h := net_tr (home := home) hn hm n i hi t t' ht ht'
  have key : ∀ t, trF n ((endTo31 rs home n t).getD i []) = (endTo31 rs home n t).getD i [] := fun t => by
    unfold trF
    rw [if_pos (net_short hn hi t)]
  rw [key, key] at h
  exact h
theorem lists_same {a b : List (List Int)} {n : Nat} (ha : a.length = n) (hb : b.length = n) (h : ∀ i, i < n → a.getD i [] = b.getD i []) : a = b := by
  refine List.ext_getElem (ha.trans hb.symm) (fun i h1 h2 => ?_)
  have := h i (by omega)
  rw [List.getD_eq_getElem?_getD, List.getD_eq_getElem?_getD, List.getElem?_eq_getElem h1, List.getElem?_eq_getElem h2] at this
  simpa using this
theorem end_still {rs : List (List Int)} {home : Int} {n : Nat} (hn : rs.length = n) (hm : Mirrored rs n) (i : Nat) (hi : i < n) : pick31 rs (end31 rs home n) home ((i : Int) + 1) = (end31 rs home n).getD i [] := by
  have hlen : ∀ t, (endTo31 rs home n t).length = n := fun t => (endTo31_ways (home := home) hn (by omega) t).len
  have hall : ∀ t t', (n + n) * n ≤ t → (n + n) * n ≤ t' → endTo31 rs home n t = endTo31 rs home n t' := fun t t' ht ht' => lists_same (hlen t) (hlen t') (fun j hj => net_rest hn hm hj ht ht')
  have hT : (n + n) * n ≤ 4 * n * n := Nat.mul_le_mul_right n (by omega)
  have h1 : (endTo31 rs home n ((n + n) * n + i + 1)).getD i [] = pick31 rs (endTo31 rs home n ((n + n) * n + i)) home ((i : Int) + 1) := by rw [net_upd hi, if_pos (mod_round hi)]
  rw [hall ((n + n) * n + i + 1) (4 * n * n) (by omega) hT, hall ((n + n) * n + i) (4 * n * n) (by omega) hT] at h1
  exact h1.symm
structure Rest31 (ways : List (List Int)) (home : Int) (n : Nat) : Prop where
  head : Head31 ways n
  far : Far31 ways home n
  own : ∀ i : Nat, i < n → (i : Int) + 1 = home → ways.getD i [] = [home]
  tail : ∀ i : Nat, i < n → (i : Int) + 1 ≠ home → ways.getD i [] ≠ [] → ∃ b, b < n ∧ ways.getD b [] ≠ [] ∧ ways.getD i [] = ((i : Int) + 1) :: ways.getD b []
theorem end_tail {rs : List (List Int)} {home : Int} {n : Nat} (hn : rs.length = n) (hm : Mirrored rs n) : Rest31 (end31 rs home n) home n :=
  ⟨endTo31_head _, endTo31_far _, fun i hi he => endTo31_home he.symm hi _, fun i hi he hne => by
    have h1 := end_still (home := home) hn hm i hi
    rcases pick31_picked rs (end31 rs home n) he with e | ⟨b, hb, h2, h3⟩
    · rw [h1] at e; exact absurd e hne
    · exact ⟨b, by omega, h2, by rw [← h1]; exact h3⟩⟩
end Go.Proofs.YtnecdeaikmhanaaGreatDoor
namespace Go.Proofs.YtnecdeaikmhanaaGreatDoor
set_option linter.unusedVariables false
theorem next_none {rs : List (List Int)} {l : List Ent} {n j : Nat} {x : Int} (hok : homesOkF rs l = true) (hn : rs.length = n) (hj : j < n)
    (h : ∀ q, q < l.length → hasF (l.getD q (0, 0, 0)).1 (l.getD q (0, 0, 0)).2.1 x = true → (end31 rs (l.getD q (0, 0, 0)).2.2 n).getD j [] = []) : nextF (sendTabsF rs l n) x ((j : Int) + 1) = 0 := by
  unfold nextF
  rw [show ((j : Int) + 1 - 1).toNat = j by omega, sendTabs_get hok hn hj]
  refine fV_none 9 (fun k hk => vF_zero (fun e he h' => ?_))
  obtain ⟨q, hq, e1, e2, e3, _⟩ := tabF_ranges rs n l j l.length e he
  refine e3 (h q hq ?_)
  unfold hasF
  rw [decide_eq_true_eq, ← e1, ← e2, h'.2, h'.1]
theorem via_pos {rs : List (List Int)} {n j : Nat} {ho : Int} (hn : rs.length = n) (hj : j < n) (hne : (end31 rs ho n).getD j [] ≠ []) : 1 ≤ viaF ((end31 rs ho n).getD j []) ho := by
  by_cases he : (j : Int) + 1 = ho
  · rw [(via_own (rs := rs) hj he).2]; omega
  · obtain ⟨_, b, _, c, _⟩ := via_far hn hj he hne
    rw [b]; exact c
theorem end_good {rs : List (List Int)} {ho : Int} {n j : Nat} (hn : rs.length = n) (h1 : 1 ≤ n) (h5 : n ≤ 5) (hj : j < n) : GoodP ((end31 rs ho n).getD j []) :=
  goodP_of (fun z hz => by have := (endTo31_ways (home := ho) hn h1 _).inn j hj z hz; omega) (endTo31_good hn _ j hj)
end Go.Proofs.YtnecdeaikmhanaaGreatDoor
namespace Go.Proofs.YtnecdeaikmhanaaGreatDoor
open Go.RowKit
set_option linter.unusedVariables false
theorem OwnInts.kept {W w1 : World} {g : Nat} {v : Value} {l : List Int} (h : OwnInts W (g + 1) v l) (hg : W.grownBy w1 (some g)) : OwnInts w1 (g + 1) v l := by
  refine World.ownsRow.kept h hg ?_
  cases hv : v.ownBlock with
  | none => exact .inl rfl
  | some k => right; have := (World.ownsRow.lt h k hv).1; intro e; cases e; omega
end Go.Proofs.YtnecdeaikmhanaaGreatDoor
namespace Go.Proofs.YtnecdeaikmhanaaGreatDoor
set_option linter.unusedVariables false
def custsF (rs : List (List Int)) (out : List Int) (h : Int) (m : Nat) : Bool := (List.range m).all fun c => !decide (ofF rs h ((c : Int) + 1) = 1) || decide ((c : Int) + 1 ∈ out)
theorem custsF_succ (rs : List (List Int)) (out : List Int) (h : Int) (m : Nat) : custsF rs out h (m + 1) = (custsF rs out h m && (!decide (ofF rs h ((m : Int) + 1) = 1) || decide ((m : Int) + 1 ∈ out))) := by
  unfold custsF
  rw [List.range_succ, List.all_append]
  simp
theorem custsF_cut {rs : List (List Int)} {out : List Int} {h : Int} {m n : Nat} (hm : m < n) (h1 : ofF rs h ((m : Int) + 1) = 1) (h2 : ((m : Int) + 1) ∉ out) : custsF rs out h n = false := by
  unfold custsF
  rw [List.all_eq_false]
  exact ⟨m, List.mem_range.2 hm, by simp [h1, h2]⟩
def readyF (rs : List (List Int)) (n : Nat) (out : List Int) (h : Int) : Bool := !decide (h ∈ out) && custsF rs out h n
def leastF (rs : List (List Int)) (n : Nat) (out : List Int) (m : Nat) : Option Nat := (List.range m).find? fun i => readyF rs n out ((i : Int) + 1)
theorem leastF_none {rs : List (List Int)} {n : Nat} {out : List Int} {m : Nat} (h : ∀ i, i < m → readyF rs n out ((i : Int) + 1) = false) : leastF rs n out m = none := by
  unfold leastF
  rw [List.find?_eq_none]
  intro i hi
  rw [h i (List.mem_range.1 hi)]
  simp
theorem leastF_some {rs : List (List Int)} {n : Nat} {out : List Int} {m i : Nat} (hi : i < m) (hr : readyF rs n out ((i : Int) + 1) = true) (h : ∀ k, k < i → readyF rs n out ((k : Int) + 1) = false) : leastF rs n out m = some i := by
  unfold leastF
  obtain ⟨d, rfl⟩ : ∃ d, m = i + (d + 1) := ⟨m - i - 1, by omega⟩
  have e : List.range (i + (d + 1)) = List.range i ++ (List.range (d + 1)).map (i + ·) := List.range_add
  rw [e, List.find?_append]
  have e0 : (List.range i).find? (fun k : Nat => readyF rs n out ((k : Int) + 1)) = none := by
    rw [List.find?_eq_none]
    intro k hk
    rw [h k (List.mem_range.1 hk)]
    simp
  rw [e0, List.range_succ_eq_map]
  simp [hr]
theorem leastF_is {rs : List (List Int)} {n : Nat} {out : List Int} {m i : Nat} (h : leastF rs n out m = some i) : i < m ∧ readyF rs n out ((i : Int) + 1) = true := by
  unfold leastF at h
  exact ⟨List.mem_range.1 (List.mem_of_find?_eq_some h), by simpa using List.find?_some h⟩
def ordStep (rs : List (List Int)) (n : Nat) (out : List Int) : List Int := match leastF rs n out n with
  | some i => out ++ [(i : Int) + 1]
  | none => out
def ordTo (rs : List (List Int)) (n k : Nat) : List Int := (List.range k).foldl (fun out _ => ordStep rs n out) []
theorem ordTo_succ (rs : List (List Int)) (n k : Nat) : ordTo rs n (k + 1) = ordStep rs n (ordTo rs n k) := foldl_range_succ _ _ _
theorem ordStep_some {rs : List (List Int)} {n : Nat} {out : List Int} {i : Nat} (h : leastF rs n out n = some i) : ordStep rs n out = out ++ [(i : Int) + 1] := by unfold ordStep; rw [h]
theorem ordStep_none {rs : List (List Int)} {n : Nat} {out : List Int} (h : leastF rs n out n = none) : ordStep rs n out = out := by unfold ordStep; rw [h]
theorem ordTo_stuck {rs : List (List Int)} {n k : Nat} (h : leastF rs n (ordTo rs n k) n = none) : ∀ d, ordTo rs n (k + d) = ordTo rs n k
  | 0 => rfl
  | d + 1 => by rw [← Nat.add_assoc, ordTo_succ, ordTo_stuck h d, ordStep_none h]
theorem ordTo_len (rs : List (List Int)) (n : Nat) : ∀ k, (ordTo rs n k).length ≤ k
  | 0 => by simp [ordTo]
  | k + 1 => by
    rw [ordTo_succ]
    have := ordTo_len rs n k
    cases h : leastF rs n (ordTo rs n k) n with
    | none => rw [ordStep_none h]; omega
    | some i => rw [ordStep_some h]; simp; omega
theorem ordTo_in (rs : List (List Int)) (n : Nat) : ∀ k, (∀ z, z ∈ ordTo rs n k → 1 ≤ z ∧ z ≤ (n : Int)) ∧ (ordTo rs n k).Nodup
  | 0 => by simp [ordTo]
  | k + 1 => by
    obtain ⟨h1, h2⟩ := ordTo_in rs n k
    rw [ordTo_succ]
    cases h : leastF rs n (ordTo rs n k) n with
    | none => rw [ordStep_none h]; exact ⟨h1, h2⟩
    | some i =>
      rw [ordStep_some h]
      obtain ⟨hi, hr⟩ := leastF_is h
      unfold readyF at hr
      simp only [Bool.and_eq_true, Bool.not_eq_true', decide_eq_false_iff_not] at hr
      refine ⟨fun z hz => ?_, ?_⟩
      · rcases List.mem_append.1 hz with hz | hz
        · exact h1 z hz
        · rw [List.mem_singleton] at hz; omega
      · rw [List.nodup_append]
        exact ⟨h2, by simp, fun a ha b hb => by rw [List.mem_singleton] at hb; subst hb; intro e; subst e; exact hr.1 ha⟩
end Go.Proofs.YtnecdeaikmhanaaGreatDoor
namespace Go.Proofs.YtnecdeaikmhanaaGreatDoor
open Go.RowKit Go.Maps
set_option linter.unusedVariables false
set_option maxRecDepth 100000
structure OrdS (w0 W : World) (B n : Nat) (out : List Int) (ov : Value) : Prop where
  bel : Below w0.heap.size w0 W
  hR : W.heap[w0.heap.size]? = some (.cells #[.int .i64 (n : Int), .map (some B)] 120 (0, 0))
  hO : W.heap[w0.heap.size + 1]? = some (.cells #[ov] 37 (0, 0))
  own : OwnInts W (w0.heap.size + 2) ov out
theorem OrdS.below {w0 W W' : World} {B n : Nat} {out : List Int} {ov : Value} (h : OrdS w0 W B n out ov) (hb : Below W.heap.size W W') : OrdS w0 W' B n out ov :=
  ⟨h.bel.trans (hb.mono h.bel.size), (hb.block _ (heap_lt h.hR)).trans h.hR, (hb.block _ (heap_lt h.hO)).trans h.hO, h.own.below hb⟩
theorem OrdS.size {w0 W : World} {B n : Nat} {out : List Int} {ov : Value} (h : OrdS w0 W B n out ov) : w0.heap.size + 2 ≤ W.heap.size := heap_lt h.hO
theorem block_new (w : World) (o : Obj) : (w.alloc o).heap[w.heap.size]? = some o := Array.getElem?_push_size ..
theorem OrdS.start (w : World) (B n : Nat) : OrdS w ((w.alloc (.cells #[.int .i64 (n : Int), .map (some B)] 120)).alloc (.cells #[.slice none 0 0] 37)) B n [] (.slice none 0 0) := by
  have hs : (w.alloc (.cells #[.int .i64 (n : Int), .map (some B)] 120)).heap.size = w.heap.size + 1 := World.size_alloc _ _
  have hb1 : Below w.heap.size w (w.alloc (.cells #[.int .i64 (n : Int), .map (some B)] 120)) := Below.alloc (Below.refl _ _) (Nat.le_refl _) _
  refine ⟨Below.alloc hb1 (by rw [hs]; omega) _, ?_, ?_, OwnInts.nil _ _⟩
  · have hb2 : Below (w.alloc (.cells #[.int .i64 (n : Int), .map (some B)] 120)).heap.size (w.alloc (.cells #[.int .i64 (n : Int), .map (some B)] 120)) ((w.alloc (.cells #[.int .i64 (n : Int), .map (some B)] 120)).alloc (.cells #[.slice none 0 0] 37)) := Below.alloc (Below.refl _ _) (Nat.le_refl _) _
    rw [hb2.block w.heap.size (by rw [hs]; omega)]
    exact block_new _ _
  · rw [← hs]
    exact block_new _ _
theorem OrdS.cells {w0 W : World} {B n : Nat} {out : List Int} {ov : Value} (h : OrdS w0 W B n out ov) : W.cell? ⟨w0.heap.size, 0, none⟩ = some (.int .i64 (n : Int)) ∧ W.cell? ⟨w0.heap.size, 1, none⟩ = some (.map (some B)) ∧ W.cell? ⟨w0.heap.size + 1, 0, none⟩ = some ov := by
  obtain ⟨_, h1, h2, _⟩ := h
  exact ⟨by simp [World.cell?, h1], by simp [World.cell?, h1], by simp [World.cell?, h2]⟩
theorem OrdS.push {w0 W w4 : World} {B n : Nat} {out out' : List Int} {ov ov' : Value} (h : OrdS w0 W B n out ov) (ho : OwnInts w4 (w0.heap.size + 2) ov' out') (hb : Below (w0.heap.size + 2) W w4) : OrdS w0 (w4.setCell ⟨w0.heap.size + 1, 0, none⟩ ov') B n out' ov' := by
  have e1 : w4.heap[w0.heap.size]? = some (.cells #[.int .i64 (n : Int), .map (some B)] 120 (0, 0)) := (hb.block _ (by omega)).trans h.hR
  have e2 : w4.heap[w0.heap.size + 1]? = some (.cells #[ov] 37 (0, 0)) := (hb.block _ (by omega)).trans h.hO
  have hg : w4.grownBy (w4.setCell ⟨w0.heap.size + 1, 0, none⟩ ov') (some (w0.heap.size + 1)) := grown_set (Below.refl _ _)
  refine ⟨Below.setCell (h.bel.trans (hb.mono (by omega))) (by show w0.heap.size ≤ w0.heap.size + 1; omega) _, ?_, ?_, OwnInts.kept (g := w0.heap.size + 1) ho hg⟩
  · rw [hg.block _ (heap_lt e1) (by simp)]; exact e1
  · have := setCell_block (i := 0) (u := ov') e2
    simpa using this
theorem OrdS.free {w0 W w4 : World} {B n : Nat} {out : List Int} {ov : Value} (h : OrdS w0 W B n out ov) (hb : Below (w0.heap.size + 2) W w4) : w4.cell? ⟨w0.heap.size + 1, 0, none⟩ = some ov ∧ w4.frozen? ⟨w0.heap.size + 1, 0, none⟩ = false := by
  have e2 : w4.heap[w0.heap.size + 1]? = some (.cells #[ov] 37 (0, 0)) := (hb.block _ (by omega)).trans h.hO
  exact ⟨by simp [World.cell?, e2], frozen_of_row w4 _ 0 _ _ e2⟩
def ReadyS (W : World) (O R B n : Nat) (rs : List (List Int)) (out : List Int) : Prop :=
  ∃ ov, W.cell? ⟨R, 0, none⟩ = some (.int .i64 (n : Int)) ∧ W.cell? ⟨R, 1, none⟩ = some (.map (some B)) ∧ W.cell? ⟨O, 0, none⟩ = some ov ∧ IntsAt W ov out ∧ RelB W B n rs
set_option maxHeartbeats 4000000 in
theorem ready_any (O R B n i : Nat) (rs : List (List Int)) (out : List Int) (w : World) (h : ReadyS w O R B n rs out) (hn : n ≤ 5) (hi : i < n) :
    Calls Tryz.prog 139 #[.int .i64 ((i : Int) + 1), .pointer (some ⟨O, 0, none⟩), .pointer (some ⟨R, 0, none⟩)] w fun e w' => e = .returned (.bool (readyF rs n out ((i : Int) + 1))) ∧ Below w.heap.size w w' := by
  obtain ⟨ov, c0, c1, c2, hI, hB⟩ := h
  obtain ⟨oa, oc, rfl, _, _⟩ := hI.form
  have hct := fun x W (hW : Below w.heap.size w W) => contains_any (.slice oa out.length oc) out x W (hI.below hW)
  have hof := fun y W (hW : Below w.heap.size w W) (h1 : 1 ≤ y) (h2 : y ≤ (n : Int)) => of_any (n : Int) B n rs ((i : Int) + 1) y W (hB.below hW) (by omega) (by omega) (by omega) h1 h2
  have hcell := fun W (hW : Below w.heap.size w W) => (show W.cell? ⟨R, 0, none⟩ = some (.int .i64 (n : Int)) ∧ W.cell? ⟨R, 1, none⟩ = some (.map (some B)) ∧ W.cell? ⟨O, 0, none⟩ = some (.slice oa out.length oc) from ⟨(hW.cell (p := ⟨R, 0, none⟩) (cell_lt c0)).trans c0, (hW.cell (p := ⟨R, 1, none⟩) (cell_lt c1)).trans c1, (hW.cell (p := ⟨O, 0, none⟩) (cell_lt c2)).trans c2⟩)
  have HCT := Lib.hid hct
  have HOF := Lib.hid hof
  have HCE := Lib.hid hcell
  clear hct hof hcell hI hB
  unfold readyF
  obtain ⟨m, hm⟩ : ∃ b, decide ((i : Int) + 1 ∈ out) = b := ⟨_, rfl⟩
  have hfst := HCT.out ((i : Int) + 1) w (Below.refl _ _)
  rw [hm] at hfst ⊢
  have HF := Lib.hid hfst
  clear hm hfst
  go_enter Tryz.func139, Tryz.ntmps139
  go_wp2_with fail
  refine HF.out.mono ?_
  rintro e w1 ⟨rfl, rfl⟩
  cases m
  · go_wp2_with fail
    go_loopg [5] n (fun gk s5 wr => ∃ c : Nat, s5 = .int .i64 ((c : Int) + 1) ∧ c + gk = n ∧ Hid (custsF rs out ((i : Int) + 1) c = true) ∧ Hid (Below w1.heap.size w1 wr))
    case atStart => exact ⟨0, by go_num, by omega, Lib.hid rfl, Lib.hid (Below.refl _ _)⟩
    case round =>
      obtain ⟨c, rfl, hc, HC, B⟩ := hrel
      obtain ⟨x0, x1, x2⟩ := HCE.out wr B.out
      clear c0 c1 c2
      by_cases hg : gk = 0
      · subst hg
        obtain rfl : c = n := by omega
        have hdn : decide ((c : Int) + 1 ≤ (c : Int)) = false := decide_eq_false (by omega)
        go_wp2_with fail
        go_ret
        exact ⟨by rw [HC.out]; rfl, B.out⟩
      · have hcn : c < n := by omega
        have hcI : (c : Int) + 1 ≤ (n : Int) := by omega
        have hgk : 1 ≤ gk := by omega
        have hs := custsF_succ rs out ((i : Int) + 1) c
        rw [HC.out] at hs
        have HOC := Lib.hid (HOF.out ((c : Int) + 1) wr B.out (by omega) hcI)
        obtain ⟨r, hr⟩ : ∃ r, ofF rs ((i : Int) + 1) ((c : Int) + 1) = r := ⟨_, rfl⟩
        have HCUT := Lib.hid (fun h2 => custsF_cut (rs := rs) (out := out) (h := (i : Int) + 1) hcn (h2 := h2))
        have hcut := HCUT.out
        rw [hr] at HOC hs hcut
        have HCU := Lib.hid hcut
        have HSU := Lib.hid hs
        have HK := Lib.hid hc
        clear hc hg HC hs hr hcut HCUT
        by_cases h1 : r = 1
        · have hb1 : (r == 1) = true := by simp [h1]
          have hcc := HCT.out ((c : Int) + 1)
          obtain ⟨m, hm⟩ : ∃ b, decide ((c : Int) + 1 ∈ out) = b := ⟨_, rfl⟩
          rw [hm] at hcc
          have HCC := Lib.hid hcc
          have HM := Lib.hid hm
          have H1 := Lib.hid h1
          clear hcc hm h1
          go_wp2_with fail
          refine HOC.out.mono ?_
          rintro e w2 ⟨rfl, hb2⟩
          have B2 := Lib.hid (B.out.trans (hb2.mono B.out.size))
          obtain ⟨y0, y1, y2⟩ := HCE.out w2 B2.out
          clear hb2 x0 x1 x2
          go_wp2_with fail
          refine (HCC.out w2 B2.out).mono ?_
          rintro e w3 ⟨rfl, rfl⟩
          cases m
          · go_wp2_with fail
            go_ret
            exact ⟨by rw [HCU.out (by have := HM.out; simpa using this) H1.out]; rfl, B2.out⟩
          · go_wp2_with fail
            go_roundg (gk - 1)
            case measure => omega
            case rel => exact ⟨c + 1, by go_num, by have := HK.out; omega, Lib.hid (by rw [HSU.out, HM.out]; simp), B2⟩
        · have hb1 : (r == 1) = false := by simp [h1]
          have H1 := Lib.hid h1
          clear h1
          go_wp2_with fail
          refine HOC.out.mono ?_
          rintro e w2 ⟨rfl, hb2⟩
          have B2 := Lib.hid (B.out.trans (hb2.mono B.out.size))
          clear hb2 x0 x1 x2
          go_wp2_with fail
          go_roundg (gk - 1)
          case measure => omega
          case rel => exact ⟨c + 1, by go_num, by have := HK.out; omega, Lib.hid (by rw [HSU.out]; simp [H1.out]), B2⟩
  · go_wp2_with fail
    go_ret
    exact ⟨rfl, Below.refl _ _⟩
def orderF (rs : List (List Int)) (n : Nat) : List Int := if (ordTo rs n n).length = n then ordTo rs n n else []
def OrderPost (rs : List (List Int)) (n : Nat) (w : World) (e : Ending) (w' : World) : Prop := ∃ v', e = .returned (.tuple #[v', .bool (decide ((ordTo rs n n).length = n))]) ∧ OwnInts w' w.heap.size v' (orderF rs n) ∧ Below w.heap.size w w'
theorem order_no {rs : List (List Int)} {n : Nat} {w w' : World} (h : (ordTo rs n n).length ≠ n) (hb : Below w.heap.size w w') : OrderPost rs n w (.returned (.tuple #[.slice none 0 0, .bool false])) w' :=
  ⟨_, by rw [decide_eq_false h], by unfold orderF; rw [if_neg h]; exact OwnInts.nil _ _, hb⟩
theorem order_yes {rs : List (List Int)} {n : Nat} {w w' : World} {v : Value} (h : (ordTo rs n n).length = n) (ho : OwnInts w' w.heap.size v (ordTo rs n n)) (hb : Below w.heap.size w w') : OrderPost rs n w (.returned (.tuple #[v, .bool true])) w' :=
  ⟨_, by rw [decide_eq_true h], by unfold orderF; rw [if_pos h]; exact ho, hb⟩
set_option maxHeartbeats 8000000 in
theorem order_any (B n : Nat) (rs : List (List Int)) (w : World) (h : RelB w B n rs) (hn : n ≤ 5) :
    Calls Tryz.prog 106 #[.agg #[.int .i64 (n : Int), .map (some B)]] w (OrderPost rs n w) := by
  have HRB := Lib.hid h
  clear h
  have hst := OrdS.start w B n
  have hsz : (w.alloc (.cells #[.int .i64 (n : Int), .map (some B)] 120)).heap.size = w.heap.size + 1 := World.size_alloc _ _
  have HST := Lib.hid hst
  clear hst
  go_enter Tryz.func106, Tryz.ntmps106
  go_wp2_with fail
  go_loopg [] n (fun gk wr => ∃ (k : Nat) (ov : Value), k + gk = n ∧ Hid ((ordTo rs n k).length = k) ∧ Hid (OrdS w wr B n (ordTo rs n k) ov))
  case atStart => exact ⟨0, _, by omega, Lib.hid rfl, HST⟩
  case round =>
    clear HST
    obtain ⟨k, ov, hk, HLN, S⟩ := hrel
    obtain ⟨oa, oc, e, hoc, hom⟩ := S.out.own.form
    subst e
    obtain ⟨c0, c1, c2⟩ := S.out.cells
    have hsz2 := S.out.size
    rw [HLN.out] at c2 S
    obtain ⟨out, hout⟩ : ∃ o, ordTo rs n k = o := ⟨_, rfl⟩
    have hstep := ordTo_succ rs n k
    have hstuck := fun h => ordTo_stuck (rs := rs) (n := n) (k := k) h (n - k)
    rw [hout] at S HLN hstep hstuck hoc
    have HOUT := Lib.hid hout
    have HSTEP := Lib.hid hstep
    have HSTK := Lib.hid hstuck
    clear hout hstep hstuck
    by_cases hg : gk = 0
    · subst hg
      obtain rfl : k = n := by omega
      have hdn : decide ((k : Int) < (k : Int)) = false := by simp
      go_wp2_with fail
      refine bodyPost_ret (results_tmp2 rfl _ _ _) rfl ?_
      exact order_yes (by rw [HOUT.out]; exact HLN.out) (by rw [HOUT.out]; exact S.out.own.lift (by omega)) S.out.bel
    · have hkn : k < n := by omega
      have hkI : (k : Int) < (n : Int) := by omega
      have hgk : 1 ≤ gk := by omega
      have HK := Lib.hid hk
      obtain ⟨GG, hGG⟩ : ∃ G, G = gk := ⟨_, rfl⟩
      have HRD := Lib.hid (fun W (hW : Below wr.heap.size wr W) i (hi : i < n) => ready_any (w.heap.size + 1) w.heap.size B n i rs out W ⟨_, (S.out.below hW).cells.1, (S.out.below hW).cells.2.1, (S.out.below hW).cells.2.2, (S.out.below hW).own.ints, HRB.out.below (S.out.below hW).bel⟩ hn hi)
      obtain ⟨wb, hwb⟩ : ∃ W, W = wr := ⟨_, rfl⟩
      subst hwb
      clear hk hg
      go_wp2_with fail
      clear c0 c1 c2
      go_loopg [6] n (fun gk s6 wr => ∃ i : Nat, s6 = .int .i64 ((i : Int) + 1) ∧ i + gk = n ∧ Hid (∀ j, j < i → readyF rs n out ((j : Int) + 1) = false) ∧ Hid (Below wb.heap.size wb wr))
      case atStart => exact ⟨0, by go_num, by omega, Lib.hid (fun j hj => absurd hj (by omega)), Lib.hid (Below.refl _ _)⟩
      case round =>
        obtain ⟨i, rfl, hi, HNO, BX⟩ := hrel
        obtain ⟨c0, c1, c2⟩ := (S.out.below BX.out).cells
        by_cases hg : gk = 0
        · subst hg
          obtain rfl : i = n := by omega
          have hdn : decide ((i : Int) + 1 ≤ (i : Int)) = false := decide_eq_false (by omega)
          have hdn2 : (i : Int) < (i : Int) + 1 := by omega
          go_wp2_with fail
          refine bodyPost_ret (results_tmp2 rfl _ _ _) rfl ?_
          refine order_no ?_ (S.out.below BX.out).bel
          have h1 := HSTK.out (leastF_none HNO.out)
          rw [show k + (i - k) = i by omega] at h1
          rw [h1, HLN.out]; omega
        · have hin : i < n := by omega
          have hiI : (i : Int) + 1 ≤ (n : Int) := by omega
          have hiI2 : ¬ (n : Int) < (i : Int) + 1 := by omega
          have hiI3 : decide ((n : Int) < (i : Int) + 1) = false := decide_eq_false hiI2
          have hgk2 : 1 ≤ gk := by omega
          have hrd := HRD.out wr BX.out i hin
          obtain ⟨r, hr⟩ : ∃ r, readyF rs n out ((i : Int) + 1) = r := ⟨_, rfl⟩
          rw [hr] at hrd
          have HR := Lib.hid hr
          have HC := Lib.hid hrd
          have HI := Lib.hid hi
          clear hi hg hr hrd
          cases r
          · go_wp2_with fail
            refine HC.out.mono ?_
            rintro e w2 ⟨rfl, hb2⟩
            have B2 := Lib.hid (BX.out.trans (hb2.mono BX.out.size))
            clear hb2
            go_wp2_with fail
            go_roundg (gk - 1)
            case measure => omega
            case rel => exact ⟨i + 1, by go_num, by have := HI.out; omega, Lib.hid (fun j hj => by
              by_cases hji : j = i
              · subst hji; exact HR.out
              · exact HNO.out j (by omega)), B2⟩
          · go_wp2_with fail
            refine HC.out.mono ?_
            rintro e w2 ⟨rfl, hb2⟩
            clear c0 c1 c2
            have B2 := Lib.hid (BX.out.trans (hb2.mono BX.out.size))
            have S2 := Lib.hid (S.out.below B2.out)
            obtain ⟨c0, c1, c2⟩ := S2.out.cells
            have hs2 := S2.out.size
            have I2 := Lib.hid (OwnInts.one w2 ((i : Int) + 1)).ints
            have O2 := Lib.hid (S2.out.own.below (Below.alloc (Below.refl _ _) (Nat.le_refl _) (.cells #[.int .i64 ((i : Int) + 1)] 3)))
            have BA := Lib.hid (Below.alloc (Below.refl (w.heap.size + 2) w2) hs2 (.cells #[.int .i64 ((i : Int) + 1)] 3))
            have HLE := Lib.hid (leastF_some hin HR.out HNO.out)
            clear hb2
            go_wp2_with (at_builtin; refine wpList_append_ints rfl (.tmp 29) (.tmp 31) rfl (w.heap.size + 2) _ _ out [(i : Int) + 1] (k + 1) (by rw [HLN.out]; rfl) rfl O2.out (by have := BA.out.size; omega) rfl I2.out (by omega) ?_; intro ad cc w4 hO4 hb4 hs4; have O4 := Lib.hid hO4; have B4 := Lib.hid (BA.out.trans hb4); have S4 := Lib.hid (S2.out.push O4.out B4.out); obtain ⟨f0, f1⟩ := S2.out.free B4.out; clear hO4 hb4)
            go_roundg (GG - 1)
            case measure => omega
            case rel => exact ⟨k + 1, _, by have := HK.out; omega, Lib.hid (by rw [HSTEP.out, ordStep_some HLE.out, List.length_append, HLN.out]; rfl), Lib.hid (by rw [HSTEP.out, ordStep_some HLE.out]; exact S4.out)⟩
def freeF (rs : List (List Int)) : Bool := relsOkF rs && decide ((ordTo rs rs.length rs.length).length = rs.length)
def relsOrderF (rs : List (List Int)) : List Int := if freeF rs = true then ordTo rs rs.length rs.length else []
def RelsOrderPost (rs : List (List Int)) (w : World) (e : Ending) (w' : World) : Prop := ∃ v', e = .returned (.tuple #[v', .bool (freeF rs)]) ∧ OwnInts w' w.heap.size v' (relsOrderF rs) ∧ Below w.heap.size w w'
theorem ro_no {rs : List (List Int)} {w w' : World} (h : relsOkF rs = false) (hb : Below w.heap.size w w') : RelsOrderPost rs w (.returned (.tuple #[.slice none 0 0, .bool false])) w' :=
  ⟨_, by unfold freeF; rw [h]; rfl, by unfold relsOrderF freeF; rw [h]; exact OwnInts.nil _ _, hb⟩
theorem ro_yes {rs : List (List Int)} {w w' : World} {v : Value} (h : relsOkF rs = true) (ho : OwnInts w' w.heap.size v (orderF rs rs.length)) (hb : Below w.heap.size w w') : RelsOrderPost rs w (.returned (.tuple #[v, .bool (decide ((ordTo rs rs.length rs.length).length = rs.length))])) w' :=
  ⟨v, by unfold freeF; rw [h]; rfl, by
    unfold orderF at ho
    unfold relsOrderF freeF
    rw [h]
    simpa using ho, hb⟩
set_option maxHeartbeats 4000000 in
theorem relsOrder_any (v : Value) (rs : List (List Int)) (w : World) (hv : RowsAt w v rs) :
    Calls Tryz.prog 70 #[v] w (RelsOrderPost rs w) := by
  have HRR := Lib.hid (readRels_any _ rs w hv)
  obtain ⟨ok, hok⟩ : ∃ b, relsOkF rs = b := ⟨_, rfl⟩
  have HOK := Lib.hid hok
  clear hv hok
  go_enter Tryz.func70, Tryz.ntmps70
  go_wp2_with fail
  refine HRR.out.mono ?_
  rintro e w1 ⟨m, ob, rfl, hb1, hpost⟩
  rw [HOK.out]
  have B1 := Lib.hid hb1
  have hs1 := hb1.size
  cases ok
  · clear hb1 hpost
    have BA : Hid (Below w.heap.size w (w1.alloc (.cells #[.int .i64 m, .map ob] 120))) := Lib.hid (Below.alloc B1.out hs1 _)
    go_wp2_with fail
    refine bodyPost_ret (results_tmp2 rfl _ _ _) rfl ?_
    exact ro_no HOK.out BA.out
  · obtain ⟨rfl, B, cnt, D, rfl, hB, hcnt, hown, hrd⟩ := hpost HOK.out
    have hn5 := (rels_bounds HOK.out).2
    have RB := Lib.hid (show RelB w1 B rs.length rs from ⟨cnt, D, hown, hrd⟩)
    have hal := Below.alloc (Below.refl w1.heap.size w1) (Nat.le_refl _) (.cells #[.int .i64 (rs.length : Int), .map (some B)] 120)
    have BA : Hid (Below w.heap.size w (w1.alloc (.cells #[.int .i64 (rs.length : Int), .map (some B)] 120))) := Lib.hid (hb1.trans (hal.mono hs1))
    have HOR := Lib.hid (order_any B rs.length rs _ (RB.out.below hal) hn5)
    have hsa : w.heap.size ≤ (w1.alloc (.cells #[.int .i64 (rs.length : Int), .map (some B)] 120)).heap.size := BA.out.size
    have HSA := Lib.hid hsa
    clear hb1 hpost hown hrd hal hB hsa
    go_wp2_with fail
    refine HOR.out.mono ?_
    rintro e w2 ⟨v', rfl, ho, hb2⟩
    have O2 := Lib.hid (ho.lift HSA.out)
    have B2 := Lib.hid (BA.out.trans (hb2.mono HSA.out))
    clear ho hb2
    go_wp2_with fail
    refine bodyPost_ret (results_tmp2 rfl _ _ _) rfl ?_
    exact ro_yes HOK.out O2.out B2.out
end Go.Proofs.YtnecdeaikmhanaaGreatDoor
namespace Go.Proofs.YtnecdeaikmhanaaGreatDoor
set_option linter.unusedVariables false
def relSet (R : List (List Int)) (i k : Nat) (r : Int) : List (List Int) := R.set i ((R.getD i []).set k r)
def relF (R : List (List Int)) (a b r : Int) : List (List Int) := relSet (relSet R (a - 1).toNat (b - 1).toNat r) (b - 1).toNat (a - 1).toNat (backF r)
def homePut (H : List Ent) (e : Ent) : List Ent := H.takeWhile (fun x => decide (ordF x e < 0)) ++ e :: H.dropWhile (fun x => decide (ordF x e < 0))
structure LSt where
  rels : List (List Int)
  homes : List Ent
def wordF (w : List Bs) (k : Nat) : Bs := w.getD k []
def sSells : Bs := [115, 101, 108, 108, 115]
def sPeers : Bs := [112, 101, 101, 114, 115]
def sParts : Bs := [112, 97, 114, 116, 115]
def sHome : Bs := [104, 111, 109, 101]
def sWays : Bs := [119, 97, 121, 115]
def sSend : Bs := [115, 101, 110, 100]
def sFree : Bs := [102, 114, 101, 101]
def sWhat : Bs := [119, 104, 97, 116, 10]
def sHomeEnd : Bs := [32, 104, 111, 109, 101, 10]
def sLost : Bs := [32, 108, 111, 115, 116, 10]
def sNo : Bs := [110, 111, 10]
def relLine (s : LSt) (w : List Bs) (r : Int) : LSt × Bs :=
  if in14 (numF (wordF w 1)) = true ∧ in14 (numF (wordF w 2)) = true ∧ numF (wordF w 1) ≠ numF (wordF w 2) then ({ s with rels := relF s.rels (numF (wordF w 1)) (numF (wordF w 2)) r }, []) else (s, sWhat)
def homeLine (s : LSt) (w : List Bs) : LSt × Bs := match rreadF (wordF w 1) with
  | none => (s, sWhat)
  | some (f, b) => if homesOkF s.rels (homePut s.homes (f, b, numF (wordF w 2))) = true then ({ s with homes := homePut s.homes (f, b, numF (wordF w 2)) }, []) else (s, sWhat)
def waysLine (s : LSt) (w : List Bs) : Bs := if in14 (numF (wordF w 1)) = true then Lib.join ((end31 s.rels (numF (wordF w 1)) 4).map ptextF) [32] ++ [10] else sWhat
def sendLine (s : LSt) (w : List Bs) : Bs :=
  if in14 (numF (wordF w 1)) = true ∧ addrF (numF (wordF w 2)) = true then
    ptextF (wayF (sendTabsF s.rels s.homes 4) (numF (wordF w 1)) (numF (wordF w 2))).1 ++ (if (wayF (sendTabsF s.rels s.homes 4) (numF (wordF w 1)) (numF (wordF w 2))).2 = true then sHomeEnd else sLost)
  else sWhat
def freeLine (s : LSt) : Bs := if freeF s.rels = true then ptextF (relsOrderF s.rels) ++ [10] else sNo
def execF (s : LSt) (line : Bs) : LSt × Bs :=
  let w := cutC 32 line
  if wordF w 0 = sSells then relLine s w 1 else if wordF w 0 = sPeers then relLine s w 2 else if wordF w 0 = sParts then relLine s w 0 else if wordF w 0 = sHome then homeLine s w
  else if wordF w 0 = sWays then (s, waysLine s w) else if wordF w 0 = sSend then (s, sendLine s w) else if wordF w 0 = sFree then (s, freeLine s) else (s, sWhat)
def lineStep (x : LSt × Bs) (line : Bs) : LSt × Bs := ((execF x.1 line).1, x.2 ++ (execF x.1 line).2)
def st0 : LSt := ⟨List.replicate 4 [0, 0, 0, 0], []⟩
def runF (lines : List Bs) : LSt × Bs := lines.foldl lineStep (st0, [])
def sLong : Bs := [116, 111, 111, 32, 108, 111, 110, 103, 10]
def linesF (text : Bs) : Bs := if 500 < text.length then sLong else (runF (cutC 10 text).dropLast).2 ++ decF (runF (cutC 10 text).dropLast).1.homes.length ++ [10]
theorem runF_snoc (ls : List Bs) (l : Bs) : runF (ls ++ [l]) = lineStep (runF ls) l := by unfold runF; rw [List.foldl_append]; rfl
structure StOk (s : LSt) : Prop where
  len : s.rels.length = 4
  rel : relsOkF s.rels = true
  hom : homesOkF s.rels s.homes = true
end Go.Proofs.YtnecdeaikmhanaaGreatDoor
namespace Go.Proofs.YtnecdeaikmhanaaGreatDoor
open Go.RowKit
set_option linter.unusedVariables false
abbrev stV (l : Bs) : Value := .string ⟨l.toArray⟩
def StrsAt (w : World) (v : Value) (ss : List Bs) : Prop := SliceAt w v ss.length fun i => stV (ss.getD i [])
theorem StrsAt.below {w w' : World} {v : Value} {ss : List Bs} (h : StrsAt w v ss) (hb : Below w.heap.size w w') : StrsAt w' v ss := SliceAt.below h hb
theorem StrsAt.form {w : World} {v : Value} {ss : List Bs} (h : StrsAt w v ss) : ∃ a cap, v = .slice a ss.length cap ∧ ss.length ≤ cap ∧ cap ≤ 9223372036854775807 := SliceAt.form h
theorem StrsAt.get {w : World} {a : Option Addr} {n cap : Nat} {ss : List Bs} (h : StrsAt w (.slice a n cap) ss) (i : Nat) (hi : i < n) :
    ∃ b off, a = some ⟨b, off, none⟩ ∧ b < w.heap.size ∧ w.cell? ⟨b, off + i, none⟩ = some (stV (ss.getD i [])) := by
  obtain ⟨a', c', e, hc, hm⟩ := h.form
  simp only [Value.slice.injEq] at e
  obtain ⟨_, rfl, rfl⟩ := e
  exact SliceAt.get h i hi
theorem numTo_small {s : Bs} {j : Nat} (hj : j < s.length) (h2 : j ≤ 2) (hd : ∀ i, i < j → isDg (s.getD i 0) = true) : 0 ≤ numTo s j ∧ numTo s j ≤ 99 := by
  have hb := fun i hi => dgF_in (hd i hi)
  have : j = 0 ∨ j = 1 ∨ j = 2 := by omega
  rcases this with rfl | rfl | rfl
  · rw [numTo_zero]; omega
  · rw [numTo_succ (by omega), numTo_zero]; have := hb 0 (by omega); omega
  · rw [numTo_succ (by omega), numTo_succ (by omega), numTo_zero]; have := hb 0 (by omega); have := hb 1 (by omega); omega
theorem getD_ge {ss : List Bs} {k : Nat} (h : ss.length ≤ k) : ss.getD k [] = [] := by
  rw [List.getD_eq_getElem?_getD, List.getElem?_eq_none h]; rfl
set_option maxHeartbeats 1000000 in
theorem at_num (v : Value) (ss : List Bs) (k : Nat) (w : World) (h : StrsAt w v ss) :
    Calls Tryz.prog 37 #[v, .int .i64 k] w fun e w' => e = .returned (stV (ss.getD k [])) ∧ w = w' := by
  obtain ⟨a, cap, rfl, hc, hm⟩ := h.form
  obtain ⟨n, hn⟩ : ∃ n, ss.length = n := ⟨_, rfl⟩
  rw [hn] at hc h ⊢
  by_cases hkn : k < n
  · obtain ⟨b, off, rfl, hb, hx⟩ := h.get k hkn
    have h2 : ¬ n ≤ k := by omega
    obtain ⟨s, hs⟩ : ∃ s, ss.getD k [] = s := ⟨_, rfl⟩
    rw [hs] at hx ⊢
    clear hs hn h
    go_enter Tryz.func37, Tryz.ntmps37
    go_wp2_with fail
    go_ret
    exact ⟨rfl, rfl⟩
  · have h2 : n ≤ k := by omega
    rw [getD_ge (by omega)]
    clear hn h
    go_enter Tryz.func37, Tryz.ntmps37
    go_wp2_with fail
    go_ret
    exact ⟨rfl, rfl⟩
theorem at_0 (v : Value) (ss : List Bs) (w : World) (h : StrsAt w v ss) : Calls Tryz.prog 37 #[v, .int .i64 0] w fun e w' => e = .returned (stV (ss.getD 0 [])) ∧ w = w' := at_num v ss 0 w h
theorem at_1 (v : Value) (ss : List Bs) (w : World) (h : StrsAt w v ss) : Calls Tryz.prog 37 #[v, .int .i64 1] w fun e w' => e = .returned (stV (ss.getD 1 [])) ∧ w = w' := at_num v ss 1 w h
theorem at_2 (v : Value) (ss : List Bs) (w : World) (h : StrsAt w v ss) : Calls Tryz.prog 37 #[v, .int .i64 2] w fun e w' => e = .returned (stV (ss.getD 2 [])) ∧ w = w' := at_num v ss 2 w h
def badV : Value := .iface 54 (.agg #[])
def badP : List PanicEntry := [{ v := badV, recovered := false }]
theorem need_yes (w : World) : Calls Tryz.prog 38 #[.bool true] w fun e w' => e = .returned (.tuple #[]) ∧ w = w' := by
  go_enter Tryz.func38, Tryz.ntmps38
  go_wp2_with fail
  first | go_end0 | skip
  all_goals exact ⟨rfl, rfl⟩
theorem need_no (w : World) : Calls Tryz.prog 38 #[.bool false] w fun e w' => e = .panicked badP ∧ w = w' := by
  go_enter Tryz.func38, Tryz.ntmps38
  go_wp2_with fail
  exact ⟨rfl, rfl, rfl⟩
set_option maxHeartbeats 4000000 in
theorem number_of (v : Value) (k : Int) (s : Bs) (w : World) (hat : Calls Tryz.prog 37 #[v, .int .i64 k] w fun e w' => e = .returned (stV s) ∧ w = w') :
    Calls Tryz.prog 66 #[v, .int .i64 k] w fun e w' => e = .returned (.int .i64 (numF s)) ∧ Below w.heap.size w w' := by
  obtain ⟨t, ht⟩ : ∃ t : ByteArray, t = ⟨s.toArray⟩ := ⟨_, rfl⟩
  have htl : t.toList = s := by rw [ht]; simp
  have hdl : t.data.toList = s := by rw [ht]
  have hsz : t.size = s.length := by rw [ht]; simp [ByteArray.size]
  unfold stV at hat
  rw [← ht] at hat
  obtain ⟨n, hn⟩ : ∃ n, s.length = n := ⟨_, rfl⟩
  rw [hn] at hsz
  have HAT := Lib.hid hat
  clear hat ht
  by_cases h0 : n = 0
  · subst h0
    have e : numF s = -1 := numF_long (by omega)
    have hem : t.toList.isEmpty = true := by rw [htl]; cases s with
      | nil => rfl
      | cons a b => simp at hn
    rw [e]
    clear e hn htl hdl
    go_enter Tryz.func66, Tryz.ntmps66
    go_wp2_with fail
    refine (HAT.out).mono ?_
    rintro e w' ⟨rfl, rfl⟩
    go_wp2_with fail
    go_ret
    exact ⟨rfl, by exact bw⟩
  have hem : t.toList.isEmpty = false := by rw [htl]; cases s with
    | nil => simp at hn; omega
    | cons a b => rfl
  by_cases h3 : 3 < n
  · have e : numF s = -1 := numF_long (by omega)
    rw [e]
    have h3' : (3 : Int) < (n : Int) := by omega
    clear e hn htl hdl
    go_enter Tryz.func66, Tryz.ntmps66
    go_wp2_with fail
    refine (HAT.out).mono ?_
    rintro e w' ⟨rfl, rfl⟩
    go_wp2_with fail
    go_ret
    exact ⟨rfl, by exact bw⟩
  have h3' : decide ((3 : Int) < (n : Int)) = false := by rw [decide_eq_false_iff_not]; omega
  have H3 := Lib.hid h3
  clear h3
  have hcv := fun W => Lib.run_convert_string_bytes (P := Tryz.prog) W 9 22 5 t Tryz.underlying9 Tryz.underlying22 Tryz.underlying5
  obtain ⟨W1, hW1⟩ : ∃ W1, W1 = Lib.bytesWorld w 5 t := ⟨_, rfl⟩
  have hB1 : Below w.heap.size w W1 := by rw [hW1]; exact Joins.below_bytesWorld _ _ _ _ (Nat.le_refl _)
  have hC : ∀ j, j < n → W1.cell? ⟨w.heap.size, j, none⟩ = some (.int .u8 ((s.getD j 0).toNat : Int)) := fun j hj => by
    rw [hW1, Lib.bytesWorld_cell _ _ _ _ (by omega), hdl]
  have hcv1 := hcv w
  rw [← hW1] at hcv1
  obtain ⟨R, hR⟩ : ∃ R, numF s = R := ⟨_, rfl⟩
  rw [hR]
  have HN := Lib.hid hn
  have HR := Lib.hid hR
  have HC := Lib.hid hC
  have HB1 := Lib.hid hB1
  have z1 : w.heap.size < W1.heap.size := by rw [hW1, Lib.bytesWorld_size]; omega
  clear hn hR hC hB1 hcv hW1 htl hdl
  go_enter Tryz.func66, Tryz.ntmps66
  go_wp2_with fail
  refine (HAT.out).mono ?_
  rintro e w' ⟨rfl, rfl⟩
  clear HAT
  go_wp2_with fail
  clear hcv1
  go_loopg [6, 22] n (fun g m i wr => ∃ j : Nat, m = .int .i64 (numTo s j) ∧ i = .int .i64 j ∧ j + g = n ∧ wr = W1 ∧ Hid (∀ i, i < j → isDg (s.getD i 0) = true))
  case atStart => exact ⟨0, by rw [numTo_zero], rfl, by omega, rfl, Lib.hid (fun j hj => by omega)⟩
  case round =>
    obtain ⟨j, rfl, rfl, hj, rfl, hd⟩ := hrel
    by_cases hg : gk = 0
    · subst hg
      obtain rfl : j = n := by omega
      have e : numTo s j = R := by rw [← HR.out, numF_good (by have := HN.out; omega) (by have := HN.out; have := H3.out; omega) (fun i hi => hd.out i (by have := HN.out; omega)), HN.out]
      rw [e]
      clear e
      go_wp2_with fail
      go_ret
      exact ⟨rfl, HB1.out⟩
    · have hjn : j < n := by omega
      have hx := HC.out j hjn
      obtain ⟨y, hy⟩ : ∃ y : Int, ((s.getD j 0).toNat : Int) = y := ⟨_, rfl⟩
      have hy0 : 0 ≤ y := by omega
      have hy1 : y ≤ 255 := by have := (s.getD j 0).toNat_lt; omega
      rw [hy] at hx
      have HY := Lib.hid hy
      clear hy
      by_cases h1 : y < 48
      · have e : R = -1 := by
          rw [← HR.out, numF_bad (by rw [HN.out]; exact hjn)]
          unfold isDg
          rw [decide_eq_false (by have := HY.out; omega)]; rfl
        subst e
        obtain ⟨M, hM⟩ : ∃ M, numTo s j = M := ⟨_, rfl⟩
        rw [hM]
        clear hM
        go_wp2_with fail
        go_ret
        exact ⟨rfl, HB1.out⟩
      · by_cases h2 : 57 < y
        · have e : R = -1 := by
            rw [← HR.out, numF_bad (by rw [HN.out]; exact hjn)]
            unfold isDg
            rw [decide_eq_false (p := (s.getD j 0).toNat ≤ 57) (by have := HY.out; omega)]; simp
          subst e
          obtain ⟨M, hM⟩ : ∃ M, numTo s j = M := ⟨_, rfl⟩
          rw [hM]
          clear hM
          go_wp2_with fail
          go_ret
          exact ⟨rfl, HB1.out⟩
        · have hdg : isDg (s.getD j 0) = true := by
            unfold isDg
            rw [decide_eq_true (by have := HY.out; omega), decide_eq_true (by have := HY.out; omega)]; rfl
          have hm0 : 0 ≤ numTo s j ∧ numTo s j ≤ 99 := numTo_small (by have := HN.out; omega) (by have := H3.out; omega) (fun i hi => hd.out i hi)
          have hS : numTo s (j + 1) = 10 * numTo s j + (y - 48) := by rw [numTo_succ (by have := HN.out; omega)]; unfold dgF; rw [HY.out]
          obtain ⟨M, hM⟩ : ∃ M, numTo s j = M := ⟨_, rfl⟩
          rw [hM] at hm0 hS
          rw [hM]
          clear hM
          obtain ⟨m0, m1⟩ := hm0
          have hj4 : (j : Int) < 1000 := by have := H3.out; omega
          have HS := Lib.hid hS
          clear hS
          have hw : IntKind.u8.wrap (y - 48) = y - 48 := by rw [IntKind.wrap_u8]; omega
          go_wp2_with fail
          go_roundg (gk - 1)
          case measure => omega
          case rel =>
            refine ⟨j + 1, ?_, by go_num, by omega, rfl, Lib.hid (fun i hi => ?_)⟩
            · rw [HS.out]
            · by_cases hij : i = j
              · subst hij; exact hdg
              · exact hd.out i (by omega)
end Go.Proofs.YtnecdeaikmhanaaGreatDoor
namespace Go.Proofs
open Go.Shelf
def Tryz.lays156_ren : Go.Shelf.Ren := ⟨fun | 156 => 65 | 165 => 102 | 166 => 103 | 169 => 104 | 240 => 133 | 241 => 134 | 276 => 163 | 277 => 164 | n => n, fun | 31 => 38 | 9 => 9 | 3 => 3 | 4 => 4 | 0 => 0 | 20 => 20 | 72 => 130 | 76 => 134 | 70 => 128 | 37 => 22 | 75 => 133 | 127 => 160 | 164 => 188 | 5 => 5 | 80 => 136 | n => n, fun | n => n⟩
theorem Tryz.lays156 : Go.Proofs.Lays.n156 Tryz.prog Tryz.lays156_ren := {
  mixed := by kernel_rfl
  f156 := Tryz.func65.trans (congrArg some (by kernel_rfl))
  f165 := Tryz.func102.trans (congrArg some (by kernel_rfl))
  f166 := Tryz.func103.trans (congrArg some (by kernel_rfl))
  f169 := Tryz.func104.trans (congrArg some (by kernel_rfl))
  f240 := Tryz.func133.trans (congrArg some (by kernel_rfl))
  f241 := Tryz.func134.trans (congrArg some (by kernel_rfl))
  f276 := Tryz.func163.trans (congrArg some (by kernel_rfl))
  f277 := Tryz.func164.trans (congrArg some (by kernel_rfl))
  t0 := Tryz.underlying0
  a0 := Tryz.isAgg0
  z0 := Tryz.sizeOf0
  v0 := Tryz.zeroValue0
  t3 := Tryz.underlying3
  a3 := Tryz.isAgg3
  z3 := Tryz.sizeOf3
  v3 := Tryz.zeroValue3
  t4 := Tryz.underlying4
  a4 := Tryz.isAgg4
  z4 := Tryz.sizeOf4
  v4 := Tryz.zeroValue4
  t9 := Tryz.underlying9
  a9 := Tryz.isAgg9
  z9 := Tryz.sizeOf9
  v9 := Tryz.zeroValue9
  t20 := Tryz.underlying20
  a20 := Tryz.isAgg20
  z20 := Tryz.sizeOf20
  v20 := Tryz.zeroValue20
  t31 := Tryz.underlying38
  a31 := Tryz.isAgg38
  z31 := Tryz.sizeOf38
  v31 := Tryz.zeroValue38
  t37 := Tryz.underlying22
  a37 := Tryz.isAgg22
  z37 := Tryz.sizeOf22
  v37 := Tryz.zeroValue22
  t70 := Tryz.underlying128
  a70 := Tryz.isAgg128
  z70 := Tryz.sizeOf128
  v70 := Tryz.zeroValue128
  t72 := Tryz.underlying130
  a72 := Tryz.isAgg130
  z72 := Tryz.sizeOf130
  v72 := Tryz.zeroValue130
  t75 := Tryz.underlying133
  a75 := Tryz.isAgg133
  z75 := Tryz.sizeOf133
  v75 := Tryz.zeroValue133
  t76 := Tryz.underlying134
  a76 := Tryz.isAgg134
  z76 := Tryz.sizeOf134
  v76 := Tryz.zeroValue134
  t127 := Tryz.underlying160
  a127 := Tryz.isAgg160
  z127 := Tryz.sizeOf160
  v127 := Tryz.zeroValue160
  t164 := Tryz.underlying188
  a164 := Tryz.isAgg188
  z164 := Tryz.sizeOf188
  v164 := Tryz.zeroValue188 }
theorem Tryz.Builder_Extra_156 : Builder.Extra Tryz.prog Tryz.lays156_ren := {
  sizeBuilder := by kernel_rfl
  liesBuilder := by kernel_rfl
  t5 := Tryz.underlying5
  a5 := Tryz.isAgg5
  z5 := Tryz.sizeOf5
  v5 := Tryz.zeroValue5
  infoByte := by kernel_rfl
  cellsByte := by kernel_rfl
  sizeByte := by kernel_rfl
  neB5 := by decide }
open Go.RowKit in
theorem Tryz.strings_Join_none (a : Option Addr) (c : Nat) (sep : ByteArray) (w : World) :
    Calls Tryz.prog 65 #[.slice a 0 c, .string sep] w fun e w' => e = .returned (.string ⟨#[]⟩) ∧ w' = w := Any.strings_Join_none Tryz.lays156 Tryz.Builder_Extra_156 a c sep w
open Go.RowKit in
theorem Tryz.strings_Join (bk o c : Nat) (xs : List ByteArray) (sep : ByteArray) (w : World) (hcells : ∀ (j : Nat) x, xs[j]? = some x → w.cell? ⟨bk, o + j, none⟩ = some (.string x)) (hbk : bk < w.heap.size) (hN : xs.length ≤ 140737488355328) (hcap : xs.length ≤ c) (hlen : (Lib.join (xs.map (·.data.toList)) sep.data.toList).length ≤ 140737488355328) :
    Calls Tryz.prog 65 #[.slice (some ⟨bk, o, none⟩) xs.length c, .string sep] w fun e w' => e = .returned (.string ⟨(Lib.join (xs.map (·.data.toList)) sep.data.toList).toArray⟩) ∧ Below w.heap.size w w' := Any.strings_Join Tryz.lays156 Tryz.Builder_Extra_156 bk o c xs sep w hcells hbk hN hcap hlen
def Tryz.laysM171_ren : Go.Shelf.Ren := ⟨fun | 171 => 21 | 243 => 39 | 246 => 71 | 283 => 107 | 284 => 108 | 285 => 109 | 286 => 110 | 129 => 143 | 317 => 142 | 318 => 144 | 319 => 145 | 320 => 146 | 337 => 169 | 338 => 170 | n => n, fun | 3 => 3 | 9 => 9 | 2 => 2 | 4 => 4 | 171 => 141 | 0 => 0 | 53 => 142 | 37 => 22 | 5 => 5 | 173 => 145 | 212 => 165 | 51 => 166 | 20 => 20 | 213 => 167 | 46 => 113 | 232 => 225 | 233 => 226 | n => n, fun | 17 => 2 | 18 => 5 | 19 => 6 | n => n⟩
theorem Tryz.laysM171 : Go.Proofs.LaysM.n171 Tryz.prog Tryz.laysM171_ren := {
  mixed := by kernel_rfl
  f129 := Tryz.func143.trans (congrArg some (by kernel_rfl))
  f171 := Tryz.func21.trans (congrArg some (by kernel_rfl))
  f243 := Tryz.func39.trans (congrArg some (by kernel_rfl))
  f246 := Tryz.func71.trans (congrArg some (by kernel_rfl))
  f283 := Tryz.func107.trans (congrArg some (by kernel_rfl))
  f284 := Tryz.func108.trans (congrArg some (by kernel_rfl))
  f285 := Tryz.func109.trans (congrArg some (by kernel_rfl))
  f286 := Tryz.func110.trans (congrArg some (by kernel_rfl))
  f317 := Tryz.func142.trans (congrArg some (by kernel_rfl))
  f318 := Tryz.func144.trans (congrArg some (by kernel_rfl))
  f319 := Tryz.func145.trans (congrArg some (by kernel_rfl))
  f320 := Tryz.func146.trans (congrArg some (by kernel_rfl))
  f337 := Tryz.func169.trans (congrArg some (by kernel_rfl))
  f338 := Tryz.func170.trans (congrArg some (by kernel_rfl))
  t0 := Tryz.underlying0
  a0 := Tryz.isAgg0
  z0 := Tryz.sizeOf0
  v0 := Tryz.zeroValue0
  t2 := Tryz.underlying2
  a2 := Tryz.isAgg2
  z2 := Tryz.sizeOf2
  v2 := Tryz.zeroValue2
  t3 := Tryz.underlying3
  a3 := Tryz.isAgg3
  z3 := Tryz.sizeOf3
  v3 := Tryz.zeroValue3
  t4 := Tryz.underlying4
  a4 := Tryz.isAgg4
  z4 := Tryz.sizeOf4
  v4 := Tryz.zeroValue4
  t5 := Tryz.underlying5
  a5 := Tryz.isAgg5
  z5 := Tryz.sizeOf5
  v5 := Tryz.zeroValue5
  t9 := Tryz.underlying9
  a9 := Tryz.isAgg9
  z9 := Tryz.sizeOf9
  v9 := Tryz.zeroValue9
  t20 := Tryz.underlying20
  a20 := Tryz.isAgg20
  z20 := Tryz.sizeOf20
  v20 := Tryz.zeroValue20
  t37 := Tryz.underlying22
  a37 := Tryz.isAgg22
  z37 := Tryz.sizeOf22
  v37 := Tryz.zeroValue22
  t46 := Tryz.underlying113
  a46 := Tryz.isAgg113
  z46 := Tryz.sizeOf113
  v46 := Tryz.zeroValue113
  t51 := Tryz.underlying166
  a51 := Tryz.isAgg166
  z51 := Tryz.sizeOf166
  v51 := Tryz.zeroValue166
  t53 := Tryz.underlying142
  a53 := Tryz.isAgg142
  z53 := Tryz.sizeOf142
  v53 := Tryz.zeroValue142
  t171 := Tryz.underlying141
  a171 := Tryz.isAgg141
  z171 := Tryz.sizeOf141
  v171 := Tryz.zeroValue141
  t173 := Tryz.underlying145
  a173 := Tryz.isAgg145
  z173 := Tryz.sizeOf145
  v173 := Tryz.zeroValue145
  t212 := Tryz.underlying165
  a212 := Tryz.isAgg165
  z212 := Tryz.sizeOf165
  v212 := Tryz.zeroValue165
  t213 := Tryz.underlying167
  a213 := Tryz.isAgg167
  z213 := Tryz.sizeOf167
  t232 := Tryz.underlying225
  a232 := Tryz.isAgg225
  z232 := Tryz.sizeOf225
  v232 := Tryz.zeroValue225
  t233 := Tryz.underlying226
  a233 := Tryz.isAgg226
  z233 := Tryz.sizeOf226
  v233 := Tryz.zeroValue226
  g17 := by kernel_rfl
  g18 := by kernel_rfl
  g19 := by kernel_rfl
  i0 := by kernel_rfl
  i2 := by kernel_rfl
  i3 := by kernel_rfl
  i4 := by kernel_rfl
  i5 := by kernel_rfl
  i9 := by kernel_rfl
  i20 := by kernel_rfl
  i37 := by kernel_rfl
  i46 := by kernel_rfl
  i51 := by kernel_rfl
  i53 := by kernel_rfl
  i171 := by kernel_rfl
  i173 := by kernel_rfl
  i212 := by kernel_rfl
  i232 := by kernel_rfl
  i233 := by kernel_rfl
  m17 := by kernel_rfl
  m18 := by kernel_rfl
  m19 := by kernel_rfl }
open Go.RowKit Go.Sort Go.Lib in
theorem Tryz.strconv_Itoa (n : Int) (h0 : -9223372036854775808 ≤ n) (h1 : n ≤ 9223372036854775807) (w : World) (htab : Lib.TabIs Tryz.prog w "internal/strconv.uint64pow10" .u64 Lib.pow10Tab) :
    Calls Tryz.prog 21 #[.int .i64 n] w fun e w' => e = .returned (.string ⟨(Lib.itoa n).toArray⟩) ∧ ∃ k os, w' = grow (w.drewN k) os := Any.strconv_Itoa Tryz.laysM171 n h0 h1 w htab
def Tryz.lays171_ren : Go.Shelf.Ren := ⟨fun | 171 => 21 | 243 => 39 | 246 => 71 | 283 => 107 | 284 => 108 | 285 => 109 | 286 => 110 | 129 => 143 | 317 => 142 | 318 => 144 | 319 => 145 | 320 => 146 | 337 => 169 | 338 => 170 | n => n, fun | 3 => 3 | 9 => 9 | 2 => 2 | 4 => 4 | 171 => 141 | 0 => 0 | 53 => 142 | 37 => 22 | 5 => 5 | 173 => 145 | 212 => 165 | 51 => 166 | 20 => 20 | 213 => 167 | 46 => 113 | 232 => 225 | 233 => 226 | n => n, fun | 17 => 2 | 18 => 5 | 19 => 6 | n => n⟩
theorem Tryz.lays171 : Go.Proofs.Lays.n171 Tryz.prog Tryz.lays171_ren := {
  mixed := by kernel_rfl
  f129 := Tryz.func143.trans (congrArg some (by kernel_rfl))
  f171 := Tryz.func21.trans (congrArg some (by kernel_rfl))
  f243 := Tryz.func39.trans (congrArg some (by kernel_rfl))
  f246 := Tryz.func71.trans (congrArg some (by kernel_rfl))
  f283 := Tryz.func107.trans (congrArg some (by kernel_rfl))
  f284 := Tryz.func108.trans (congrArg some (by kernel_rfl))
  f285 := Tryz.func109.trans (congrArg some (by kernel_rfl))
  f286 := Tryz.func110.trans (congrArg some (by kernel_rfl))
  f317 := Tryz.func142.trans (congrArg some (by kernel_rfl))
  f318 := Tryz.func144.trans (congrArg some (by kernel_rfl))
  f319 := Tryz.func145.trans (congrArg some (by kernel_rfl))
  f320 := Tryz.func146.trans (congrArg some (by kernel_rfl))
  f337 := Tryz.func169.trans (congrArg some (by kernel_rfl))
  f338 := Tryz.func170.trans (congrArg some (by kernel_rfl))
  t0 := Tryz.underlying0
  a0 := Tryz.isAgg0
  z0 := Tryz.sizeOf0
  v0 := Tryz.zeroValue0
  t2 := Tryz.underlying2
  a2 := Tryz.isAgg2
  z2 := Tryz.sizeOf2
  v2 := Tryz.zeroValue2
  t3 := Tryz.underlying3
  a3 := Tryz.isAgg3
  z3 := Tryz.sizeOf3
  v3 := Tryz.zeroValue3
  t4 := Tryz.underlying4
  a4 := Tryz.isAgg4
  z4 := Tryz.sizeOf4
  v4 := Tryz.zeroValue4
  t5 := Tryz.underlying5
  a5 := Tryz.isAgg5
  z5 := Tryz.sizeOf5
  v5 := Tryz.zeroValue5
  t9 := Tryz.underlying9
  a9 := Tryz.isAgg9
  z9 := Tryz.sizeOf9
  v9 := Tryz.zeroValue9
  t20 := Tryz.underlying20
  a20 := Tryz.isAgg20
  z20 := Tryz.sizeOf20
  v20 := Tryz.zeroValue20
  t37 := Tryz.underlying22
  a37 := Tryz.isAgg22
  z37 := Tryz.sizeOf22
  v37 := Tryz.zeroValue22
  t46 := Tryz.underlying113
  a46 := Tryz.isAgg113
  z46 := Tryz.sizeOf113
  v46 := Tryz.zeroValue113
  t51 := Tryz.underlying166
  a51 := Tryz.isAgg166
  z51 := Tryz.sizeOf166
  v51 := Tryz.zeroValue166
  t53 := Tryz.underlying142
  a53 := Tryz.isAgg142
  z53 := Tryz.sizeOf142
  v53 := Tryz.zeroValue142
  t171 := Tryz.underlying141
  a171 := Tryz.isAgg141
  z171 := Tryz.sizeOf141
  v171 := Tryz.zeroValue141
  t173 := Tryz.underlying145
  a173 := Tryz.isAgg145
  z173 := Tryz.sizeOf145
  v173 := Tryz.zeroValue145
  t212 := Tryz.underlying165
  a212 := Tryz.isAgg165
  z212 := Tryz.sizeOf165
  v212 := Tryz.zeroValue165
  t213 := Tryz.underlying167
  a213 := Tryz.isAgg167
  z213 := Tryz.sizeOf167
  t232 := Tryz.underlying225
  a232 := Tryz.isAgg225
  z232 := Tryz.sizeOf225
  v232 := Tryz.zeroValue225
  t233 := Tryz.underlying226
  a233 := Tryz.isAgg226
  z233 := Tryz.sizeOf226
  v233 := Tryz.zeroValue226
  g17 := by kernel_rfl
  g18 := by kernel_rfl
  g19 := by kernel_rfl }
open Go.RowKit Go.Sort Go.Lib in
theorem Tryz.strconv_Itoa_small (i : Nat) (hi : i < 100) (w : World) :
    Calls Tryz.prog 21 #[.int .i64 i] w fun e w' => e = .returned (.string ⟨(Lib.decDigits i).toArray⟩) ∧ w' = w := Any.strconv_Itoa_small Tryz.lays171 i hi w
def Tryz.laysC172_ren : Go.Shelf.Ren := ⟨fun | 172 => 126 | 244 => 153 | 245 => 154 | 247 => 172 | 279 => 173 | 280 => 174 | 281 => 175 | 282 => 176 | 287 => 181 | 316 => 182 | 171 => 21 | 205 => 160 | 321 => 186 | 322 => 187 | 243 => 39 | 246 => 71 | 283 => 107 | 284 => 108 | 285 => 109 | 286 => 110 | 129 => 143 | 317 => 142 | 318 => 144 | 319 => 145 | 320 => 146 | 337 => 169 | 338 => 170 | n => n, fun | 9 => 9 | 3 => 3 | 75 => 133 | 76 => 134 | 4 => 4 | 5 => 5 | 167 => 198 | 37 => 22 | 0 => 0 | 85 => 199 | 2 => 2 | 168 => 201 | 53 => 142 | 175 => 227 | 46 => 113 | 210 => 230 | 127 => 160 | 145 => 213 | 143 => 211 | 21 => 21 | 171 => 141 | 173 => 145 | 212 => 165 | 51 => 166 | 20 => 20 | 213 => 167 | 232 => 225 | 233 => 226 | 80 => 136 | n => n, fun | 15 => 7 | 16 => 8 | 17 => 2 | 18 => 5 | 19 => 6 | n => n⟩
theorem Tryz.laysC172 : Go.Proofs.LaysC.n172 Tryz.prog Tryz.laysC172_ren := {
  mixed := by kernel_rfl
  f129 := Tryz.func143.trans (congrArg some (by kernel_rfl))
  f171 := Tryz.func21.trans (congrArg some (by kernel_rfl))
  f172 := Tryz.func126.trans (congrArg some (by kernel_rfl))
  f205 := Tryz.func160.trans (congrArg some (by kernel_rfl))
  f243 := Tryz.func39.trans (congrArg some (by kernel_rfl))
  f244 := Tryz.func153.trans (congrArg some (by kernel_rfl))
  f245 := Tryz.func154.trans (congrArg some (by kernel_rfl))
  f246 := Tryz.func71.trans (congrArg some (by kernel_rfl))
  f247 := Tryz.func172.trans (congrArg some (by kernel_rfl))
  f279 := Tryz.func173.trans (congrArg some (by kernel_rfl))
  f280 := Tryz.func174.trans (congrArg some (by kernel_rfl))
  f281 := Tryz.func175.trans (congrArg some (by kernel_rfl))
  f282 := Tryz.func176.trans (congrArg some (by kernel_rfl))
  f283 := Tryz.func107.trans (congrArg some (by kernel_rfl))
  f284 := Tryz.func108.trans (congrArg some (by kernel_rfl))
  f285 := Tryz.func109.trans (congrArg some (by kernel_rfl))
  f286 := Tryz.func110.trans (congrArg some (by kernel_rfl))
  f287 := Tryz.func181.trans (congrArg some (by kernel_rfl))
  f316 := Tryz.func182.trans (congrArg some (by kernel_rfl))
  f317 := Tryz.func142.trans (congrArg some (by kernel_rfl))
  f318 := Tryz.func144.trans (congrArg some (by kernel_rfl))
  f319 := Tryz.func145.trans (congrArg some (by kernel_rfl))
  f320 := Tryz.func146.trans (congrArg some (by kernel_rfl))
  f321 := Tryz.func186.trans (congrArg some (by kernel_rfl))
  f322 := Tryz.func187.trans (congrArg some (by kernel_rfl))
  f337 := Tryz.func169.trans (congrArg some (by kernel_rfl))
  f338 := Tryz.func170.trans (congrArg some (by kernel_rfl))
  t0 := Tryz.underlying0
  a0 := Tryz.isAgg0
  z0 := Tryz.sizeOf0
  v0 := Tryz.zeroValue0
  t2 := Tryz.underlying2
  a2 := Tryz.isAgg2
  z2 := Tryz.sizeOf2
  v2 := Tryz.zeroValue2
  t3 := Tryz.underlying3
  a3 := Tryz.isAgg3
  z3 := Tryz.sizeOf3
  v3 := Tryz.zeroValue3
  t4 := Tryz.underlying4
  a4 := Tryz.isAgg4
  z4 := Tryz.sizeOf4
  v4 := Tryz.zeroValue4
  t5 := Tryz.underlying5
  a5 := Tryz.isAgg5
  z5 := Tryz.sizeOf5
  v5 := Tryz.zeroValue5
  t9 := Tryz.underlying9
  a9 := Tryz.isAgg9
  z9 := Tryz.sizeOf9
  v9 := Tryz.zeroValue9
  t20 := Tryz.underlying20
  a20 := Tryz.isAgg20
  z20 := Tryz.sizeOf20
  v20 := Tryz.zeroValue20
  t21 := Tryz.underlying21
  a21 := Tryz.isAgg21
  z21 := Tryz.sizeOf21
  v21 := Tryz.zeroValue21
  t37 := Tryz.underlying22
  a37 := Tryz.isAgg22
  z37 := Tryz.sizeOf22
  v37 := Tryz.zeroValue22
  t46 := Tryz.underlying113
  a46 := Tryz.isAgg113
  z46 := Tryz.sizeOf113
  v46 := Tryz.zeroValue113
  t51 := Tryz.underlying166
  a51 := Tryz.isAgg166
  z51 := Tryz.sizeOf166
  v51 := Tryz.zeroValue166
  t53 := Tryz.underlying142
  a53 := Tryz.isAgg142
  z53 := Tryz.sizeOf142
  v53 := Tryz.zeroValue142
  t75 := Tryz.underlying133
  a75 := Tryz.isAgg133
  z75 := Tryz.sizeOf133
  v75 := Tryz.zeroValue133
  t76 := Tryz.underlying134
  a76 := Tryz.isAgg134
  z76 := Tryz.sizeOf134
  v76 := Tryz.zeroValue134
  t85 := Tryz.underlying199
  a85 := Tryz.isAgg199
  z85 := Tryz.sizeOf199
  v85 := Tryz.zeroValue199
  t127 := Tryz.underlying160
  a127 := Tryz.isAgg160
  z127 := Tryz.sizeOf160
  v127 := Tryz.zeroValue160
  t143 := Tryz.underlying211
  a143 := Tryz.isAgg211
  z143 := Tryz.sizeOf211
  v143 := Tryz.zeroValue211
  t145 := Tryz.underlying213
  a145 := Tryz.isAgg213
  z145 := Tryz.sizeOf213
  v145 := Tryz.zeroValue213
  t167 := Tryz.underlying198
  a167 := Tryz.isAgg198
  z167 := Tryz.sizeOf198
  v167 := Tryz.zeroValue198
  t168 := Tryz.underlying201
  a168 := Tryz.isAgg201
  z168 := Tryz.sizeOf201
  v168 := Tryz.zeroValue201
  t171 := Tryz.underlying141
  a171 := Tryz.isAgg141
  z171 := Tryz.sizeOf141
  v171 := Tryz.zeroValue141
  t173 := Tryz.underlying145
  a173 := Tryz.isAgg145
  z173 := Tryz.sizeOf145
  v173 := Tryz.zeroValue145
  t175 := Tryz.underlying227
  a175 := Tryz.isAgg227
  z175 := Tryz.sizeOf227
  v175 := Tryz.zeroValue227
  t210 := Tryz.underlying230
  a210 := Tryz.isAgg230
  z210 := Tryz.sizeOf230
  v210 := Tryz.zeroValue230
  t212 := Tryz.underlying165
  a212 := Tryz.isAgg165
  z212 := Tryz.sizeOf165
  v212 := Tryz.zeroValue165
  t213 := Tryz.underlying167
  a213 := Tryz.isAgg167
  z213 := Tryz.sizeOf167
  t232 := Tryz.underlying225
  a232 := Tryz.isAgg225
  z232 := Tryz.sizeOf225
  v232 := Tryz.zeroValue225
  t233 := Tryz.underlying226
  a233 := Tryz.isAgg226
  z233 := Tryz.sizeOf226
  v233 := Tryz.zeroValue226
  g15 := by kernel_rfl
  g16 := by kernel_rfl
  g17 := by kernel_rfl
  g18 := by kernel_rfl
  g19 := by kernel_rfl
  t80 := Tryz.underlying136
  a80 := Tryz.isAgg136
  z80 := Tryz.sizeOf136
  v80 := Tryz.zeroValue136
  i0 := by kernel_rfl
  i2 := by kernel_rfl
  i3 := by kernel_rfl
  i4 := by kernel_rfl
  i5 := by kernel_rfl
  i9 := by kernel_rfl
  i20 := by kernel_rfl
  i21 := by kernel_rfl
  i37 := by kernel_rfl
  i46 := by kernel_rfl
  i51 := by kernel_rfl
  i53 := by kernel_rfl
  i75 := by kernel_rfl
  i76 := by kernel_rfl
  i80 := by kernel_rfl
  i85 := by kernel_rfl
  i127 := by kernel_rfl
  i143 := by kernel_rfl
  i145 := by kernel_rfl
  i167 := by kernel_rfl
  i168 := by kernel_rfl
  i171 := by kernel_rfl
  i173 := by kernel_rfl
  i175 := by kernel_rfl
  i210 := by kernel_rfl
  i212 := by kernel_rfl
  i232 := by kernel_rfl
  i233 := by kernel_rfl
  m15 := by kernel_rfl
  m16 := by kernel_rfl
  m17 := by kernel_rfl
  m18 := by kernel_rfl
  m19 := by kernel_rfl
  c0 := by kernel_rfl
  c2 := by kernel_rfl
  c3 := by kernel_rfl
  c4 := by kernel_rfl
  c5 := by kernel_rfl
  c9 := by kernel_rfl
  c20 := by kernel_rfl
  c21 := by kernel_rfl
  c37 := by kernel_rfl
  c46 := by kernel_rfl
  c51 := by kernel_rfl
  c53 := by kernel_rfl
  c75 := by kernel_rfl
  c76 := by kernel_rfl
  c80 := by kernel_rfl
  c85 := by kernel_rfl
  c127 := by kernel_rfl
  c143 := by kernel_rfl
  c145 := by kernel_rfl
  c167 := by kernel_rfl
  c168 := by kernel_rfl
  c171 := by kernel_rfl
  c173 := by kernel_rfl
  c175 := by kernel_rfl
  c210 := by kernel_rfl
  c212 := by kernel_rfl
  c213 := by kernel_rfl
  c232 := by kernel_rfl
  c233 := by kernel_rfl }
open Go.RowKit in
theorem Tryz.strconv_Atoi_ok (s : ByteArray) (hmax : s.size ≤ 9223372036854775806) (v : Int) (h : Lib.atoiAll s.data.toList = .ok v) (w : World) :
    Calls Tryz.prog 126 #[.string s] w fun e w' => e = .returned (.tuple #[.int .i64 v, .nilIface]) ∧ (w' = w ∨ ∃ t, w' = Lib.bytesWorld w 5 t) := Any.strconv_Atoi_ok Tryz.laysC172 s hmax v h w
open Go.RowKit in
theorem Tryz.strconv_Atoi_range_var (s : ByteArray) (hlim : s.size ≤ 281474976710656) (h : Lib.atoiAll s.data.toList = .range) (tp : TypeId) (p : Value) (w : World) (hvar : w.var? Tryz.prog "strconv.ErrRange" = some #[.iface tp p]) :
    Calls Tryz.prog 126 #[.string s] w fun e w' => ∃ N, e = .returned (.tuple #[.int .i64 (Lib.atoiSat s.data.toList), .iface 201 (.pointer (some ⟨N, 0, none⟩))]) ∧ w.heap.size ≤ N ∧ w'.heap[N]? = some (.cells #[.string ⟨#[65, 116, 111, 105]⟩, .string s, .iface tp p] 230 (0, 0)) ∧ Below w.heap.size w w' := Any.strconv_Atoi_range_var Tryz.laysC172 s hlim h tp p w hvar
def Tryz.lays145_ren : Go.Shelf.Ren := ⟨fun | 145 => 90 | 220 => 125 | 219 => 88 | 217 => 121 | 225 => 122 | 224 => 123 | 267 => 124 | 266 => 151 | 314 => 152 | n => n, fun | 9 => 9 | 4 => 4 | 59 => 109 | 3 => 3 | 5 => 5 | 46 => 113 | 146 => 176 | 51 => 166 | n => n, fun | 1 => 0 | n => n⟩
theorem Tryz.lays145 : Go.Proofs.Lays.n145 Tryz.prog Tryz.lays145_ren := {
  mixed := by kernel_rfl
  f145 := Tryz.func90.trans (congrArg some (by kernel_rfl))
  f217 := Tryz.func121.trans (congrArg some (by kernel_rfl))
  f219 := Tryz.func88.trans (congrArg some (by kernel_rfl))
  f220 := Tryz.func125.trans (congrArg some (by kernel_rfl))
  f224 := Tryz.func123.trans (congrArg some (by kernel_rfl))
  f225 := Tryz.func122.trans (congrArg some (by kernel_rfl))
  f266 := Tryz.func151.trans (congrArg some (by kernel_rfl))
  f267 := Tryz.func124.trans (congrArg some (by kernel_rfl))
  f314 := Tryz.func152.trans (congrArg some (by kernel_rfl))
  t3 := Tryz.underlying3
  a3 := Tryz.isAgg3
  z3 := Tryz.sizeOf3
  v3 := Tryz.zeroValue3
  t4 := Tryz.underlying4
  a4 := Tryz.isAgg4
  z4 := Tryz.sizeOf4
  v4 := Tryz.zeroValue4
  t5 := Tryz.underlying5
  a5 := Tryz.isAgg5
  z5 := Tryz.sizeOf5
  v5 := Tryz.zeroValue5
  t9 := Tryz.underlying9
  a9 := Tryz.isAgg9
  z9 := Tryz.sizeOf9
  v9 := Tryz.zeroValue9
  t46 := Tryz.underlying113
  a46 := Tryz.isAgg113
  z46 := Tryz.sizeOf113
  v46 := Tryz.zeroValue113
  t51 := Tryz.underlying166
  a51 := Tryz.isAgg166
  z51 := Tryz.sizeOf166
  v51 := Tryz.zeroValue166
  t59 := Tryz.underlying109
  a59 := Tryz.isAgg109
  z59 := Tryz.sizeOf109
  v59 := Tryz.zeroValue109
  t146 := Tryz.underlying176
  a146 := Tryz.isAgg176
  z146 := Tryz.sizeOf176
  v146 := Tryz.zeroValue176
  g1 := by kernel_rfl }
open Go.RowKit Go.Lib in
theorem Tryz.strings_Cut (s sep : ByteArray) (m : Int) (w : World) (hs : s.size < 4294967281) (hm : w.cell? ⟨0, 0, none⟩ = some (.int .i64 m)) :
    Calls Tryz.prog 90 #[.string s, .string sep] w fun e w' => e = .returned (.tuple #[.string ⟨(Lib.cut s.data.toList sep.data.toList).1.toArray⟩, .string ⟨(Lib.cut s.data.toList sep.data.toList).2.1.toArray⟩, .bool (Lib.cut s.data.toList sep.data.toList).2.2]) ∧ ∃ n, w' = w.drewN n := Any.strings_Cut Tryz.lays145 s sep m w hs hm
def Tryz.lays146_ren : Go.Shelf.Ren := ⟨fun | 146 => 19 | 221 => 28 | 268 => 51 | 138 => 52 | 143 => 53 | 195 => 85 | 197 => 86 | 218 => 87 | 219 => 88 | 260 => 120 | 217 => 121 | 225 => 122 | 224 => 123 | 267 => 124 | 266 => 151 | 314 => 152 | n => n, fun | 9 => 9 | 31 => 38 | 3 => 3 | 4 => 4 | 0 => 0 | 105 => 106 | 21 => 21 | 5 => 5 | 46 => 113 | 119 => 172 | 139 => 175 | 138 => 174 | 146 => 176 | 51 => 166 | n => n, fun | 1 => 0 | 3 => 3 | 4 => 4 | n => n⟩
theorem Tryz.lays146 : Go.Proofs.Lays.n146 Tryz.prog Tryz.lays146_ren := {
  mixed := by kernel_rfl
  f138 := Tryz.func52.trans (congrArg some (by kernel_rfl))
  f143 := Tryz.func53.trans (congrArg some (by kernel_rfl))
  f146 := Tryz.func19.trans (congrArg some (by kernel_rfl))
  f195 := Tryz.func85.trans (congrArg some (by kernel_rfl))
  f197 := Tryz.func86.trans (congrArg some (by kernel_rfl))
  f217 := Tryz.func121.trans (congrArg some (by kernel_rfl))
  f218 := Tryz.func87.trans (congrArg some (by kernel_rfl))
  f219 := Tryz.func88.trans (congrArg some (by kernel_rfl))
  f221 := Tryz.func28.trans (congrArg some (by kernel_rfl))
  f224 := Tryz.func123.trans (congrArg some (by kernel_rfl))
  f225 := Tryz.func122.trans (congrArg some (by kernel_rfl))
  f260 := Tryz.func120.trans (congrArg some (by kernel_rfl))
  f266 := Tryz.func151.trans (congrArg some (by kernel_rfl))
  f267 := Tryz.func124.trans (congrArg some (by kernel_rfl))
  f268 := Tryz.func51.trans (congrArg some (by kernel_rfl))
  f314 := Tryz.func152.trans (congrArg some (by kernel_rfl))
  t0 := Tryz.underlying0
  a0 := Tryz.isAgg0
  z0 := Tryz.sizeOf0
  v0 := Tryz.zeroValue0
  t3 := Tryz.underlying3
  a3 := Tryz.isAgg3
  z3 := Tryz.sizeOf3
  v3 := Tryz.zeroValue3
  t4 := Tryz.underlying4
  a4 := Tryz.isAgg4
  z4 := Tryz.sizeOf4
  v4 := Tryz.zeroValue4
  t5 := Tryz.underlying5
  a5 := Tryz.isAgg5
  z5 := Tryz.sizeOf5
  v5 := Tryz.zeroValue5
  t9 := Tryz.underlying9
  a9 := Tryz.isAgg9
  z9 := Tryz.sizeOf9
  v9 := Tryz.zeroValue9
  t21 := Tryz.underlying21
  a21 := Tryz.isAgg21
  z21 := Tryz.sizeOf21
  v21 := Tryz.zeroValue21
  t31 := Tryz.underlying38
  a31 := Tryz.isAgg38
  z31 := Tryz.sizeOf38
  v31 := Tryz.zeroValue38
  t46 := Tryz.underlying113
  a46 := Tryz.isAgg113
  z46 := Tryz.sizeOf113
  v46 := Tryz.zeroValue113
  t51 := Tryz.underlying166
  a51 := Tryz.isAgg166
  z51 := Tryz.sizeOf166
  v51 := Tryz.zeroValue166
  t105 := Tryz.underlying106
  a105 := Tryz.isAgg106
  z105 := Tryz.sizeOf106
  v105 := Tryz.zeroValue106
  t119 := Tryz.underlying172
  a119 := Tryz.isAgg172
  z119 := Tryz.sizeOf172
  t138 := Tryz.underlying174
  a138 := Tryz.isAgg174
  z138 := Tryz.sizeOf174
  v138 := Tryz.zeroValue174
  t139 := Tryz.underlying175
  a139 := Tryz.isAgg175
  z139 := Tryz.sizeOf175
  v139 := Tryz.zeroValue175
  t146 := Tryz.underlying176
  a146 := Tryz.isAgg176
  z146 := Tryz.sizeOf176
  v146 := Tryz.zeroValue176
  g1 := by kernel_rfl
  g3 := by kernel_rfl
  g4 := by kernel_rfl }
open Go.RowKit Go.Lib in
theorem Tryz.strings_Split (s sep : ByteArray) (m : Int) (w : World) (hs : s.size < 4294967281) (hm : w.cell? ⟨0, 0, none⟩ = some (.int .i64 m)) (h1 : 1 ≤ sep.size) :
    Calls Tryz.prog 19 #[.string s, .string sep] w fun e w' =>
      e = .returned (.slice (some ⟨w.heap.size, 0, none⟩) (Lib.countB s sep + 1) (Lib.countB s sep + 1)) ∧ w' = w.alloc (.cells ((Lib.splitB sep 0 (Lib.countB s sep) s).map Value.string).toArray 9) := Any.strings_Split Tryz.lays146 (by kernel_rfl) s sep m w hs hm h1
end Go.Proofs
