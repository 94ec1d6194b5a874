/- Plain: every net comes to rest. No program here. Plain: who has a way to the one range gets home, without a loop. Without a home all others are gone to as ever. No program here. -/
import Derived.Test.YtlpibfafpljedaaGreatDoorSendP
import Derived.Test.YtlpibfafpljedaaGreatDoorNetE
import Derived.Test.YtlpibfafpljedaaGreatDoorOwnP
namespace Go.Proofs.YtlpibfafpljedaaGreatDoor
set_option linter.unusedVariables false

/-- a way that a house tells to all: its own, or one by a customer -/
def custV (rs : List (List Int)) (i : Nat) (way : List Int) : List Int := if way.getD 1 0 = 0 ∨ ofF rs ((i : Int) + 1) (way.getD 1 0) = 1 then way else []
theorem second_if (way : List Int) : (if 1 < way.length then way.getD 1 0 else 0) = way.getD 1 0 := by
  split
  · rfl
  · rename_i h
    rw [List.getD_eq_getElem?_getD, List.getElem?_eq_none (by omega)]
    rfl
theorem tells_cust {rs : List (List Int)} {way : List Int} {b : Nat} {t : Int} (h1 : ofF rs ((b : Int) + 1) t ≠ 1) (h : tellsF rs way ((b : Int) + 1) t = true) : custV rs b way = way ∧ way ≠ [] := by
  unfold tellsF mayF at h
  rw [second_if] at h
  simp only [Bool.and_eq_true, Bool.or_eq_true, decide_eq_true_eq, Bool.not_eq_true', decide_eq_false_iff_not] at h
  obtain ⟨⟨h2, _⟩, _, h3⟩ := h
  refine ⟨?_, h2⟩
  unfold custV
  rw [if_pos]
  rcases h3 with (h3 | h3) | h3
  · exact .inl h3
  · exact .inr h3
  · exact absurd h3 h1
theorem cust_in {rs : List (List Int)} {way : List Int} {b : Nat} (h : custV rs b way ≠ []) : custV rs b way = way := by
  unfold custV at h ⊢
  split
  · rfl
  · rename_i h'
    rw [if_neg h'] at h
    exact absurd rfl h
theorem tells_same {rs : List (List Int)} {wa wb : List Int} {b : Nat} {t : Int} (h1 : ofF rs ((b : Int) + 1) t ≠ 1) (he : custV rs b wa = custV rs b wb) (h : tellsF rs wa ((b : Int) + 1) t = true) : wa = wb := by
  obtain ⟨e1, e2⟩ := tells_cust h1 h
  have h3 : custV rs b wb ≠ [] := by rw [← he, e1]; exact e2
  rw [← e1, he, cust_in h3]
theorem fold_same {α : Type} (f g : α → Nat → α) : ∀ (n : Nat) (z : α), (∀ b, b < n → ∀ x, f x b = g x b) → (List.range n).foldl f z = (List.range n).foldl g z
  | 0, _, _ => rfl
  | n + 1, z, h => by rw [foldl_range_succ, foldl_range_succ, fold_same f g n z (fun b hb => h b (by omega)), h n (by omega)]
theorem row_all {rs wa wb : List (List Int)} {n : Nat} {house rel : Int} (hn : rs.length = n) (h : ∀ b, b < n → ofF rs house ((b : Int) + 1) = rel → wa.getD b [] = wb.getD b []) : row31 rs wa house rel = row31 rs wb house rel := by
  unfold row31
  rw [hn]
  refine fold_same _ _ n _ (fun b hb x => ?_)
  unfold step31
  by_cases hr : ofF rs house ((b : Int) + 1) = rel
  · rw [h b hb hr]
  · rw [if_neg (fun h' => hr h'.1), if_neg (fun h' => hr h'.1)]
theorem row_cust {rs wa wb : List (List Int)} {n : Nat} {house rel : Int} (hn : rs.length = n) (hb1 : ∀ b, b < n → ofF rs house ((b : Int) + 1) = rel → ofF rs ((b : Int) + 1) house ≠ 1)
    (h : ∀ b, b < n → ofF rs house ((b : Int) + 1) = rel → custV rs b (wa.getD b []) = custV rs b (wb.getD b [])) : row31 rs wa house rel = row31 rs wb house rel := by
  unfold row31
  rw [hn]
  refine fold_same _ _ n _ (fun b hb x => ?_)
  unfold step31
  by_cases hr : ofF rs house ((b : Int) + 1) = rel
  · have e := h b hb hr
    have h1 := hb1 b hb hr
    cases ha : tellsF rs (wa.getD b []) ((b : Int) + 1) house
    · cases hb' : tellsF rs (wb.getD b []) ((b : Int) + 1) house
      · rw [if_neg (fun h' => by cases h'.2), if_neg (fun h' => by cases h'.2)]
      · have := tells_same h1 e.symm hb'
        rw [this, ha] at hb'
        cases hb'
    · have := tells_same h1 e ha
      rw [← this, ha]
  · rw [if_neg (fun h' => hr h'.1), if_neg (fun h' => hr h'.1)]
theorem row31_second {rs ways : List (List Int)} {n : Nat} {house rel : Int} (hn : rs.length = n) (hh : Head31 ways n) (h : row31 rs ways house rel ≠ []) : ofF rs house ((row31 rs ways house rel).getD 1 0) = rel ∧ (row31 rs ways house rel).getD 1 0 ≠ 0 := by
  rw [row31_ann hn] at h ⊢
  split at h
  · exact absurd rfl h
  · rename_i he
    rw [if_neg he]
    obtain ⟨b, hb, hB, e⟩ := annF_mem (minF_in he)
    rw [e]
    unfold annB at hB
    rw [Bool.and_eq_true, decide_eq_true_eq] at hB
    have hne : ways.getD b [] ≠ [] := by
      intro e'
      have := hB.2
      unfold tellsF at this
      rw [e'] at this
      simp at this
    have h0 := hh b hb hne
    have e1 : (house :: ways.getD b []).getD 1 0 = (b : Int) + 1 := by rw [← h0]; simp
    rw [e1]
    exact ⟨hB.1, by omega⟩
theorem pick_cust {rs ways : List (List Int)} {n i : Nat} {home : Int} (hn : rs.length = n) (hh : Head31 ways n) (hne : (i : Int) + 1 ≠ home) : custV rs i (pick31 rs ways home ((i : Int) + 1)) = row31 rs ways ((i : Int) + 1) 1 := by
  unfold pick31
  rw [if_neg hne]
  by_cases h1 : row31 rs ways ((i : Int) + 1) 1 ≠ []
  · rw [if_pos h1]
    have := row31_second hn hh h1
    unfold custV
    rw [if_pos (.inr this.1)]
  · rw [if_neg h1]
    have h1' : row31 rs ways ((i : Int) + 1) 1 = [] := by simpa using h1
    have key : ∀ rel : Int, rel ≠ 1 → custV rs i (row31 rs ways ((i : Int) + 1) rel) = [] := fun rel hr => by
      by_cases h2 : row31 rs ways ((i : Int) + 1) rel = []
      · rw [h2]; unfold custV; split <;> rfl
      · have := row31_second hn hh h2
        unfold custV
        rw [if_neg]
        intro h'
        rcases h' with h' | h'
        · exact this.2 h'
        · rw [this.1] at h'; exact hr h'
    rw [h1']
    split
    · exact key 2 (by omega)
    · exact key 3 (by omega)
/-- what each is to the other -/
def Mirrored (rs : List (List Int)) (n : Nat) : Prop := ∀ i b, i < n → b < n → ofF rs ((b : Int) + 1) ((i : Int) + 1) = backF (ofF rs ((i : Int) + 1) ((b : Int) + 1))
theorem relsOk_mirror {rs : List (List Int)} {n : Nat} (hn : rs.length = n) (h : relsOkF rs = true) : Mirrored rs n := fun i b hi hb => by
  subst hn
  unfold relsOkF at h
  rw [Bool.and_eq_true, List.all_eq_true] at h
  have h1 := h.1 i (List.mem_range.2 hi)
  rw [Bool.and_eq_true, List.all_eq_true] at h1
  have h2 := h1.2 b (List.mem_range.2 hb)
  unfold relOkF at h2
  simp only [Bool.and_eq_true, decide_eq_true_eq] at h2
  have h3 := h2.1.2
  unfold ofF
  rw [show ((b : Int) + 1 - 1).toNat = b by omega, show ((i : Int) + 1 - 1).toNat = i by omega]
  exact h3
theorem net_upd {rs : List (List Int)} {home : Int} {n i : Nat} (hi : i < n) (t : Nat) : (endTo31 rs home n (t + 1)).getD i [] = if t % n = i then pick31 rs (endTo31 rs home n t) home ((i : Int) + 1) else (endTo31 rs home n t).getD i [] := by
  rw [endTo31_succ]
  unfold net31
  rw [map_range_getD _ _ _ hi]
  by_cases h : t % n = i
  · rw [if_pos (by omega), if_pos h, h]
  · rw [if_neg (by omega), if_neg h]
theorem net_last {rs : List (List Int)} {home : Int} {n i : Nat} (hi : i < n) (K : Nat) : ∀ d, ∃ u, K * n ≤ u ∧ (endTo31 rs home n (K * n + i + 1 + d)).getD i [] = pick31 rs (endTo31 rs home n u) home ((i : Int) + 1)
  | 0 => ⟨K * n + i, by omega, by rw [Nat.add_zero, net_upd hi, if_pos (mod_round hi)]⟩
  | d + 1 => by
    obtain ⟨u, h1, h2⟩ := net_last (rs := rs) (home := home) hi K d
    rw [← Nat.add_assoc, net_upd hi]
    by_cases h : (K * n + i + 1 + d) % n = i
    · exact ⟨K * n + i + 1 + d, by omega, by rw [if_pos h]⟩
    · exact ⟨u, h1, by rw [if_neg h, h2]⟩
theorem net_late {rs : List (List Int)} {home : Int} {n i : Nat} (hi : i < n) {K t : Nat} (ht : (K + 1) * n ≤ t) : ∃ u, K * n ≤ u ∧ (endTo31 rs home n t).getD i [] = pick31 rs (endTo31 rs home n u) home ((i : Int) + 1) := by
  rw [Nat.succ_mul] at ht
  obtain ⟨d, rfl⟩ : ∃ d, t = K * n + i + 1 + d := ⟨t - (K * n + i + 1), by omega⟩
  exact net_last hi K d
theorem nodup_short {n : Nat} {l : List Int} (hnd : l.Nodup) (hin : ∀ z, z ∈ l → 1 ≤ z ∧ z ≤ (n : Int)) : l.length ≤ n := by
  rcases Nat.lt_or_ge n l.length with h | h
  · exfalso
    have hmem : ∀ i, i < l.length → l.getD i 0 ∈ l := fun i hi => by rw [List.getD_eq_getElem?_getD, List.getElem?_eq_getElem hi]; exact List.getElem_mem hi
    obtain ⟨i, j, hij, hj, e⟩ := pigeon n (fun i => l.getD i 0) (fun i hi => hin _ (hmem i (by omega)))
    simp only [List.getD_eq_getElem?_getD, List.getElem?_eq_getElem (show i < l.length by omega), List.getElem?_eq_getElem (show j < l.length by omega), Option.getD_some] at e
    exact List.pairwise_iff_getElem.1 hnd i j (by omega) (by omega) hij e
  · exact h
/-- a way, if it is not too long -/
def trF (k : Nat) (l : List Int) : List Int := if l.length ≤ k then l else []
theorem trF_nil (k : Nat) : trF k [] = [] := by unfold trF; split <;> rfl
theorem trF_zero (l : List Int) : trF 0 l = [] := by
  unfold trF
  split
  · rename_i h
    exact List.length_eq_zero_iff.1 (by omega)
  · rfl
theorem trF_in {k : Nat} {l : List Int} (h : trF k l ≠ []) : trF k l = l ∧ l.length ≤ k := by
  unfold trF at h ⊢
  split
  · rename_i h'; exact ⟨rfl, h'⟩
  · rename_i h'; rw [if_neg h'] at h; exact absurd rfl h
theorem cmp_longer {a b : List Int} (h : b.length < a.length) : ¬ cmpF a b < 0 := by
  unfold cmpF
  rw [if_neg (by omega), if_pos h]
  omega
theorem cmp_shorter {a b : List Int} (h : a.length < b.length) : cmpF a b < 0 := by
  unfold cmpF
  rw [if_pos h]
  omega
/-- what is picked of ways that are not too long -/
theorem row_tr {rs wa wb : List (List Int)} {n k : Nat} {house rel : Int} (hn : rs.length = n)
    (h : ∀ b, b < n → ofF rs house ((b : Int) + 1) = rel → (tellsF rs (wb.getD b []) ((b : Int) + 1) house = true ↔ (tellsF rs (wa.getD b []) ((b : Int) + 1) house = true ∧ (wa.getD b []).length ≤ k)) ∧ (tellsF rs (wb.getD b []) ((b : Int) + 1) house = true → wb.getD b [] = wa.getD b [])) :
    row31 rs wb house rel = trF (k + 1) (row31 rs wa house rel) := by
  unfold row31
  rw [hn]
  have key : ∀ m, m ≤ n → (List.range m).foldl (step31 rs wb house rel) [] = trF (k + 1) ((List.range m).foldl (step31 rs wa house rel) []) := by
    intro m
    induction m with
    | zero => intro _; exact (trF_nil _).symm
    | succ m ih =>
      intro hm
      rw [foldl_range_succ, foldl_range_succ, ih (by omega)]
      obtain ⟨best, hb⟩ : ∃ l, (List.range m).foldl (step31 rs wa house rel) [] = l := ⟨_, rfl⟩
      rw [hb]
      unfold step31
      by_cases hr : ofF rs house ((m : Int) + 1) = rel
      · obtain ⟨h1, h2⟩ := h m (by omega) hr
        by_cases hta : tellsF rs (wa.getD m []) ((m : Int) + 1) house = true
        · rw [if_pos (⟨hr, hta⟩ : _ ∧ _)]
          by_cases hl : (wa.getD m []).length ≤ k
          · have htb := h1.2 ⟨hta, hl⟩
            rw [if_pos (⟨hr, htb⟩ : _ ∧ _), h2 htb]
            have hc : trF (k + 1) (house :: wa.getD m []) = house :: wa.getD m [] := by unfold trF; rw [if_pos (by rw [List.length_cons]; omega)]
            by_cases hbl : best.length ≤ k + 1
            · have : trF (k + 1) best = best := by unfold trF; rw [if_pos hbl]
              rw [this]
              split
              · exact hc.symm
              · exact this.symm
            · have : trF (k + 1) best = [] := by unfold trF; rw [if_neg hbl]
              rw [this, if_pos (.inl rfl), if_pos (.inr (cmp_shorter (by rw [List.length_cons]; omega)))]
              exact hc.symm
          · have htb : ¬ tellsF rs (wb.getD m []) ((m : Int) + 1) house = true := fun h' => hl (h1.1 h').2
            rw [if_neg (fun h' => htb h'.2)]
            have hc : trF (k + 1) (house :: wa.getD m []) = [] := by unfold trF; rw [if_neg (by rw [List.length_cons]; omega)]
            split
            · rename_i hcond
              rw [hc]
              rcases hcond with e | e
              · rw [e, trF_nil]
              · unfold trF
                rw [if_neg]
                intro hbl
                exact cmp_longer (by rw [List.length_cons]; omega) e
            · rfl
        · have htb : ¬ tellsF rs (wb.getD m []) ((m : Int) + 1) house = true := fun h' => hta (h1.1 h').1
          rw [if_neg (fun h' => htb h'.2), if_neg (fun h' => hta h'.2)]
      · rw [if_neg (fun h' => hr h'.1), if_neg (fun h' => hr h'.1)]
  exact key n (Nat.le_refl _)
theorem getD_map_range {n b : Nat} (f : Nat → List Int) (hb : b < n) : ((List.range n).map f).getD b [] = f b := map_range_getD f n b hb
theorem row_trc {rs wa : List (List Int)} {n k : Nat} {house rel : Int} (hn : rs.length = n) (hb1 : ∀ b, b < n → ofF rs house ((b : Int) + 1) = rel → ofF rs ((b : Int) + 1) house ≠ 1) :
    row31 rs ((List.range n).map fun b => trF k (custV rs b (wa.getD b []))) house rel = trF (k + 1) (row31 rs wa house rel) := by
  refine row_tr hn (fun b hb hr => ?_)
  rw [map_range_getD _ n b hb]
  have h1 := hb1 b hb hr
  have hne : ∀ w, tellsF rs w ((b : Int) + 1) house = true → w ≠ [] := fun w hw => (tells_cust h1 hw).2
  have fwd : tellsF rs (trF k (custV rs b (wa.getD b []))) ((b : Int) + 1) house = true → trF k (custV rs b (wa.getD b [])) = wa.getD b [] ∧ (wa.getD b []).length ≤ k := fun h' => by
    obtain ⟨e1, e2⟩ := trF_in (hne _ h')
    have e3 : custV rs b (wa.getD b []) ≠ [] := by rw [← e1]; exact hne _ h'
    have e4 := cust_in e3
    rw [e4] at e2
    exact ⟨by rw [e1, e4], e2⟩
  refine ⟨⟨fun h' => ?_, fun h' => ?_⟩, fun h' => (fwd h').1⟩
  · obtain ⟨e1, e2⟩ := fwd h'
    rw [e1] at h'
    exact ⟨h', e2⟩
  · rw [(tells_cust h1 h'.1).1]
    unfold trF
    rw [if_pos h'.2]
    exact h'.1
theorem row_tra {rs wa : List (List Int)} {n k : Nat} {house rel : Int} (hn : rs.length = n) :
    row31 rs ((List.range n).map fun b => trF k (wa.getD b [])) house rel = trF (k + 1) (row31 rs wa house rel) := by
  refine row_tr hn (fun b hb hr => ?_)
  rw [map_range_getD _ n b hb]
  have hne : ∀ w, tellsF rs w ((b : Int) + 1) house = true → w ≠ [] := fun w hw e => by
    unfold tellsF at hw
    rw [e] at hw
    simp at hw
  have fwd : tellsF rs (trF k (wa.getD b [])) ((b : Int) + 1) house = true → trF k (wa.getD b []) = wa.getD b [] ∧ (wa.getD b []).length ≤ k := fun h' => trF_in (hne _ h')
  refine ⟨⟨fun h' => ?_, fun h' => ?_⟩, fun h' => (fwd h').1⟩
  · obtain ⟨e1, e2⟩ := fwd h'
    rw [e1] at h'
    exact ⟨h', e2⟩
  · unfold trF
    rw [if_pos h'.2]
    exact h'.1
theorem map_same {n : Nat} {f g : Nat → List Int} (h : ∀ b, b < n → f b = g b) : (List.range n).map f = (List.range n).map g := List.map_congr_left fun b hb => h b (List.mem_range.1 hb)
theorem cust_tr {rs : List (List Int)} {home : Int} {n : Nat} (hn : rs.length = n) (hm : Mirrored rs n) :
    ∀ k i, i < n → ∀ t t', k * n ≤ t → k * n ≤ t' → trF k (custV rs i ((endTo31 rs home n t).getD i [])) = trF k (custV rs i ((endTo31 rs home n t').getD i []))
  | 0, i, _, _, _, _, _ => by rw [trF_zero, trF_zero]
  | k + 1, i, hi, t, t', ht, ht' => by
    obtain ⟨u, hu, e⟩ := net_late (rs := rs) (home := home) hi ht
    obtain ⟨u', hu', e'⟩ := net_late (rs := rs) (home := home) hi ht'
    rw [e, e']
    by_cases hh : (i : Int) + 1 = home
    · rw [hh, pick31_home, pick31_home]
    · have hb1 : ∀ b, b < n → ofF rs ((i : Int) + 1) ((b : Int) + 1) = 1 → ofF rs ((b : Int) + 1) ((i : Int) + 1) ≠ 1 := fun b hb hr => by rw [hm i b hi hb, hr]; decide
      rw [pick_cust hn (endTo31_head u) hh, pick_cust hn (endTo31_head u') hh, ← row_trc hn hb1, ← row_trc hn hb1, map_same (fun b hb => cust_tr hn hm k b hb u u' hu hu')]
theorem net_short {rs : List (List Int)} {home : Int} {n i : Nat} (hn : rs.length = n) (hi : i < n) (t : Nat) : ((endTo31 rs home n t).getD i []).length ≤ n :=
  nodup_short (endTo31_good hn t i hi) ((endTo31_ways (home := home) hn (by omega) t).inn i hi)
theorem cust_rest {rs : List (List Int)} {home : Int} {n : Nat} (hn : rs.length = n) (hm : Mirrored rs n) {i t t' : Nat} (hi : i < n) (ht : n * n ≤ t) (ht' : n * n ≤ t') : custV rs i ((endTo31 rs home n t).getD i []) = custV rs i ((endTo31 rs home n t').getD i []) := by
  have h := cust_tr (home := home) hn hm n i hi t t' ht ht'
  have key : ∀ t, trF n (custV rs i ((endTo31 rs home n t).getD i [])) = custV rs i ((endTo31 rs home n t).getD i []) := fun t => by
    by_cases he : custV rs i ((endTo31 rs home n t).getD i []) = []
    · rw [he, trF_nil]
    · rw [cust_in he]
      unfold trF
      rw [if_pos (net_short hn hi t)]
  rw [key, key] at h
  exact h
theorem net_tr {rs : List (List Int)} {home : Int} {n : Nat} (hn : rs.length = n) (hm : Mirrored rs n) :
    ∀ k i, i < n → ∀ t t', (n + k) * n ≤ t → (n + k) * n ≤ t' → trF k ((endTo31 rs home n t).getD i []) = trF k ((endTo31 rs home n t').getD i [])
  | 0, i, hi, _, _, _, _ => by rw [trF_zero, trF_zero]
  | k + 1, i, hi, t, t', ht, ht' => by
    rw [← Nat.add_assoc] at ht ht'
    obtain ⟨u, hu, e⟩ := net_late (rs := rs) (home := home) hi ht
    obtain ⟨u', hu', e'⟩ := net_late (rs := rs) (home := home) hi ht'
    rw [e, e']
    by_cases hh : (i : Int) + 1 = home
    · rw [hh, pick31_home, pick31_home]
    · have hle : n * n ≤ (n + k) * n := Nat.mul_le_mul_right n (by omega)
      have r1 : row31 rs (endTo31 rs home n u) ((i : Int) + 1) 1 = row31 rs (endTo31 rs home n u') ((i : Int) + 1) 1 := row_cust hn (fun b hb hr => by rw [hm i b hi hb, hr]; decide) (fun b hb _ => cust_rest hn hm hb (by omega) (by omega))
      have r2 : row31 rs (endTo31 rs home n u) ((i : Int) + 1) 2 = row31 rs (endTo31 rs home n u') ((i : Int) + 1) 2 := row_cust hn (fun b hb hr => by rw [hm i b hi hb, hr]; decide) (fun b hb _ => cust_rest hn hm hb (by omega) (by omega))
      have r3 : trF (k + 1) (row31 rs (endTo31 rs home n u) ((i : Int) + 1) 3) = trF (k + 1) (row31 rs (endTo31 rs home n u') ((i : Int) + 1) 3) := by
        rw [← row_tra hn, ← row_tra hn, map_same (fun b hb => net_tr hn hm k b hb u u' hu hu')]
      unfold pick31
      rw [r1, r2, if_neg hh, if_neg hh]
      split
      · rfl
      · split
        · rfl
        · exact r3
theorem net_rest {rs : List (List Int)} {home : Int} {n i t t' : Nat} (hn : rs.length = n) (hm : Mirrored rs n) (hi : i < n) (ht : (n + n) * n ≤ t) (ht' : (n + n) * n ≤ t') : (endTo31 rs home n t).getD i [] = (endTo31 rs home n t').getD i [] := by
  have h := net_tr (home := home) hn hm n i hi t t' ht ht'
  have key : ∀ t, trF n ((endTo31 rs home n t).getD i []) = (endTo31 rs home n t).getD i [] := fun t => by
    unfold trF
    rw [if_pos (net_short hn hi t)]
  rw [key, key] at h
  exact h
theorem lists_same {a b : List (List Int)} {n : Nat} (ha : a.length = n) (hb : b.length = n) (h : ∀ i, i < n → a.getD i [] = b.getD i []) : a = b := by
  refine List.ext_getElem (ha.trans hb.symm) (fun i h1 h2 => ?_)
  have := h i (by omega)
  rw [List.getD_eq_getElem?_getD, List.getD_eq_getElem?_getD, List.getElem?_eq_getElem h1, List.getElem?_eq_getElem h2] at this
  simpa using this
/-- in the end no house would pick another way -/
theorem end_still {rs : List (List Int)} {home : Int} {n : Nat} (hn : rs.length = n) (hm : Mirrored rs n) (i : Nat) (hi : i < n) : pick31 rs (end31 rs home n) home ((i : Int) + 1) = (end31 rs home n).getD i [] := by
  have hlen : ∀ t, (endTo31 rs home n t).length = n := fun t => (endTo31_ways (home := home) hn (by omega) t).len
  have hall : ∀ t t', (n + n) * n ≤ t → (n + n) * n ≤ t' → endTo31 rs home n t = endTo31 rs home n t' := fun t t' ht ht' => lists_same (hlen t) (hlen t') (fun j hj => net_rest hn hm hj ht ht')
  have hT : (n + n) * n ≤ 4 * n * n := Nat.mul_le_mul_right n (by omega)
  have h1 : (endTo31 rs home n ((n + n) * n + i + 1)).getD i [] = pick31 rs (endTo31 rs home n ((n + n) * n + i)) home ((i : Int) + 1) := by rw [net_upd hi, if_pos (mod_round hi)]
  rw [hall ((n + n) * n + i + 1) (4 * n * n) (by omega) hT, hall ((n + n) * n + i) (4 * n * n) (by omega) hT] at h1
  exact h1.symm
/-- a way in the end goes on as the ways of its houses -/
structure Rest31 (ways : List (List Int)) (home : Int) (n : Nat) : Prop where
  head : Head31 ways n
  far : Far31 ways home n
  own : ∀ i : Nat, i < n → (i : Int) + 1 = home → ways.getD i [] = [home]
  tail : ∀ i : Nat, i < n → (i : Int) + 1 ≠ home → ways.getD i [] ≠ [] → ∃ b, b < n ∧ ways.getD b [] ≠ [] ∧ ways.getD i [] = ((i : Int) + 1) :: ways.getD b []
theorem end_tail {rs : List (List Int)} {home : Int} {n : Nat} (hn : rs.length = n) (hm : Mirrored rs n) : Rest31 (end31 rs home n) home n :=
  ⟨endTo31_head _, endTo31_far _, fun i hi he => endTo31_home he.symm hi _, fun i hi he hne => by
    have h1 := end_still (home := home) hn hm i hi
    rcases pick31_picked rs (end31 rs home n) he with e | ⟨b, hb, h2, h3⟩
    · rw [h1] at e; exact absurd e hne
    · exact ⟨b, by omega, h2, by rw [← h1]; exact h3⟩⟩
theorem rest_drop {ways : List (List Int)} {home : Int} {n : Nat} (R : Rest31 ways home n) {i : Nat} (hi : i < n) (hne : ways.getD i [] ≠ []) :
    ∀ j, j < (ways.getD i []).length → ∃ c, c < n ∧ (ways.getD i []).getD j 0 = (c : Int) + 1 ∧ (ways.getD i []).drop j = ways.getD c []
  | 0, _ => ⟨i, hi, R.head i hi hne, by simp⟩
  | j + 1, hj => by
    obtain ⟨c, hc, e1, e2⟩ := rest_drop R hi hne j (by omega)
    have hl : (ways.getD c []).length = (ways.getD i []).length - j := by rw [← e2, List.length_drop]
    have hcn : ways.getD c [] ≠ [] := fun e => by rw [e, List.length_nil] at hl; omega
    have hch : (c : Int) + 1 ≠ home := fun e => by rw [R.own c hc e, List.length_singleton] at hl; omega
    obtain ⟨b, hb, hbn, e3⟩ := R.tail c hc hch hcn
    have e4 : (ways.getD i []).drop (j + 1) = ways.getD b [] := by
      have e5 : (ways.getD i []).drop (j + 1) = ((ways.getD i []).drop j).drop 1 := by rw [List.drop_drop]
      rw [e5, e2, e3]; rfl
    refine ⟨b, hb, ?_, e4⟩
    rw [← R.head b hb hbn, ← e4]
    simp [List.getD_eq_getElem?_getD]
/-- by whom a house goes -/
def goF (ways : List (List Int)) (home h : Int) : Int := if ways.getD (h - 1).toNat [] = [] then 0 else viaF (ways.getD (h - 1).toNat []) home
theorem goF_in {ways : List (List Int)} {home : Int} {n : Nat} (R : Rest31 ways home n) {i : Nat} (hi : i < n) (hne : ways.getD i [] ≠ []) {j : Nat} (hj : j < (ways.getD i []).length) :
    goF ways home ((ways.getD i []).getD j 0) = if j + 1 < (ways.getD i []).length then (ways.getD i []).getD (j + 1) 0 else home := by
  obtain ⟨c, hc, e1, e2⟩ := rest_drop R hi hne j hj
  have hl : (ways.getD c []).length = (ways.getD i []).length - j := by rw [← e2, List.length_drop]
  unfold goF
  rw [e1, show ((c : Int) + 1 - 1).toNat = c by omega, if_neg (fun e => by rw [e, List.length_nil] at hl; omega)]
  unfold viaF
  rw [hl]
  by_cases h : j + 1 < (ways.getD i []).length
  · rw [if_pos (by omega), if_pos h, ← e2]
    simp [List.getD_eq_getElem?_getD]
  · rw [if_neg (by omega), if_neg h]
theorem last_home {ways : List (List Int)} {home : Int} {n : Nat} (R : Rest31 ways home n) {i : Nat} (hi : i < n) (hne : ways.getD i [] ≠ []) : (ways.getD i []).getD ((ways.getD i []).length - 1) 0 = home := by
  have hpos : 0 < (ways.getD i []).length := List.length_pos_iff.2 hne
  obtain ⟨c, hc, e1, e2⟩ := rest_drop R hi hne ((ways.getD i []).length - 1) (by omega)
  have hl : (ways.getD c []).length = 1 := by rw [← e2, List.length_drop]; omega
  by_cases hch : (c : Int) + 1 = home
  · rw [e1, hch]
  · rcases R.far c hc hch with e | e
    · rw [e] at hl; simp at hl
    · omega
theorem goW_listR {f : Int → Int} {n : Nat} : ∀ (rest : List Int) (h : Int) (k : Nat) (acc : List Int), rest.length + 1 ≤ k →
    (∀ i, i < rest.length → f ((h :: rest).getD i 0) = (h :: rest).getD (i + 1) 0 ∧ (h :: rest).getD (i + 1) 0 ≠ (h :: rest).getD i 0) → (∀ z, z ∈ rest → 1 ≤ z ∧ z ≤ (n : Int)) →
    f ((h :: rest).getD rest.length 0) = (h :: rest).getD rest.length 0 → goW f n k h acc = (acc ++ rest, true)
  | [], h, 0, acc, hk, _, _, _ => by simp at hk
  | [], h, k + 1, acc, hk, _, _, hl => by
    have hl : f h = h := by simpa using hl
    unfold goW
    rw [if_pos hl, List.append_nil]
  | y :: t, h, 0, acc, hk, _, _, _ => by simp at hk
  | y :: t, h, k + 1, acc, hk, hc, hin, hl => by
    have h0 := hc 0 (by simp)
    have e0 : f h = y := by simpa using h0.1
    have n0 : y ≠ h := by simpa using h0.2
    have hy := hin y (List.mem_cons_self ..)
    unfold goW
    rw [e0, if_neg n0, if_neg (by omega), goW_listR t y k (acc ++ [y]) (by simp at hk; omega) (fun i hi => by have := hc (i + 1) (by simp; omega); simpa using this) (fun z hz => hin z (List.mem_cons_of_mem _ hz)) (by simpa using hl)]
    simp
/-- a packet goes the way -/
theorem goW_rest {ways : List (List Int)} {home : Int} {n : Nat} {f : Int → Int} (R : Rest31 ways home n) (hnd : Good31 ways n) (hin : ∀ i, i < n → ∀ z, z ∈ ways.getD i [] → 1 ≤ z ∧ z ≤ (n : Int))
    (hf : ∀ h : Int, 1 ≤ h → h ≤ (n : Int) → f h = goF ways home h) {i : Nat} (hi : i < n) (hne : ways.getD i [] ≠ []) : goW f n n ((i : Int) + 1) [(i : Int) + 1] = (ways.getD i [], true) := by
  have hg := fun j (hj : j < (ways.getD i []).length) => goF_in R hi hne hj
  have hl := last_home R hi hne
  have h0 := R.head i hi hne
  have hsh := nodup_short (hnd i hi) (hin i hi)
  have hn := hnd i hi
  have hz := hin i hi
  generalize ways.getD i [] = way at *
  match way, hne with
  | x :: rest, _ =>
    have ex : x = (i : Int) + 1 := by simpa using h0
    subst ex
    have hmem : ∀ j, j < rest.length + 1 → ((((i : Int) + 1) :: rest).getD j 0) ∈ (((i : Int) + 1) :: rest) := fun j hj => by rw [List.getD_eq_getElem?_getD, List.getElem?_eq_getElem (by simpa using hj)]; exact List.getElem_mem _
    have hff : ∀ j, j < rest.length + 1 → f ((((i : Int) + 1) :: rest).getD j 0) = if j + 1 < rest.length + 1 then (((i : Int) + 1) :: rest).getD (j + 1) 0 else home := fun j hj => by
      have h2 := hz _ (hmem j hj)
      rw [hf _ h2.1 h2.2, hg j (by simpa using hj)]
      rfl
    have := goW_listR (f := f) (n := n) rest ((i : Int) + 1) n [(i : Int) + 1] (by simpa using hsh) (fun j hj => by
      refine ⟨by rw [hff j (by omega), if_pos (by omega)], fun e => ?_⟩
      rw [List.getD_eq_getElem?_getD, List.getD_eq_getElem?_getD, List.getElem?_eq_getElem (by simp; omega), List.getElem?_eq_getElem (by simp; omega)] at e
      exact List.pairwise_iff_getElem.1 hn j (j + 1) (by simp; omega) (by simp; omega) (by omega) e.symm) (fun z hz' => hz z (List.mem_cons_of_mem _ hz')) (by
      rw [hff _ (by omega), if_neg (by omega)]
      have : (((i : Int) + 1) :: rest).getD rest.length 0 = home := by simpa using hl
      rw [this])
    rw [this]
    rfl
end Go.Proofs.YtlpibfafpljedaaGreatDoor

namespace Go.Proofs.YtlpibfafpljedaaGreatDoor
set_option linter.unusedVariables false

/-- no home lies in another one -/
def Apart (l : List Ent) : Prop := ∀ i k, i < l.length → k < l.length → i ≠ k → inF (l.getD i (0, 0, 0)).1 (l.getD i (0, 0, 0)).2.1 (l.getD k (0, 0, 0)).1 (l.getD k (0, 0, 0)).2.1 = false
theorem apart_one {rs : List (List Int)} {l : List Ent} {q q' : Nat} {x : Int} (hok : homesOkF rs l = true) (ha : Apart l) (hq : q < l.length) (hq' : q' < l.length)
    (hx : hasF (l.getD q (0, 0, 0)).1 (l.getD q (0, 0, 0)).2.1 x = true) (hx' : hasF (l.getD q' (0, 0, 0)).1 (l.getD q' (0, 0, 0)).2.1 x = true) : q = q' := by
  rcases Nat.decEq q q' with hne | he
  · exfalso
    have r1 := (homes_house hok hq).2.2
    have r2 := (homes_house hok hq').2.2
    by_cases hle : (l.getD q (0, 0, 0)).2.1 ≤ (l.getD q' (0, 0, 0)).2.1
    · have := nested r2 r1 hle hx' hx
      rw [ha q' q hq' hq (Ne.symm hne)] at this
      cases this
    · have := nested r1 r2 (by omega) hx hx'
      rw [ha q q' hq hq' hne] at this
      cases this
  · exact he
theorem next_none {rs : List (List Int)} {l : List Ent} {n j : Nat} {x : Int} (hok : homesOkF rs l = true) (hn : rs.length = n) (hj : j < n)
    (h : ∀ q, q < l.length → hasF (l.getD q (0, 0, 0)).1 (l.getD q (0, 0, 0)).2.1 x = true → (end31 rs (l.getD q (0, 0, 0)).2.2 n).getD j [] = []) : nextF (sendTabsF rs l n) x ((j : Int) + 1) = 0 := by
  unfold nextF
  rw [show ((j : Int) + 1 - 1).toNat = j by omega, sendTabs_get hok hn hj]
  refine fV_none 9 (fun k hk => vF_zero (fun e he h' => ?_))
  obtain ⟨q, hq, e1, e2, e3, _⟩ := tabF_ranges rs n l j l.length e he
  refine e3 (h q hq ?_)
  unfold hasF
  rw [decide_eq_true_eq, ← e1, ← e2, h'.2, h'.1]
theorem via_pos {rs : List (List Int)} {n j : Nat} {ho : Int} (hn : rs.length = n) (hj : j < n) (hne : (end31 rs ho n).getD j [] ≠ []) : 1 ≤ viaF ((end31 rs ho n).getD j []) ho := by
  by_cases he : (j : Int) + 1 = ho
  · rw [(via_own (rs := rs) hj he).2]; omega
  · obtain ⟨_, b, _, c, _⟩ := via_far hn hj he hne
    rw [b]; exact c
theorem next_at {rs : List (List Int)} {l : List Ent} {n j q : Nat} {x : Int} (hok : homesOkF rs l = true) (ha : Apart l) (hn : rs.length = n) (hj : j < n) (hq : q < l.length)
    (hx : hasF (l.getD q (0, 0, 0)).1 (l.getD q (0, 0, 0)).2.1 x = true) (hne : (end31 rs (l.getD q (0, 0, 0)).2.2 n).getD j [] ≠ []) :
    nextF (sendTabsF rs l n) x ((j : Int) + 1) = viaF ((end31 rs (l.getD q (0, 0, 0)).2.2 n).getD j []) (l.getD q (0, 0, 0)).2.2 := by
  have hmem := tabF_has rs n l j l.length q hq hne
  obtain ⟨i0, i8, _⟩ := rangeOk_parts (homes_house hok hq).2.2
  obtain ⟨K, hK⟩ : ∃ K : Nat, (l.getD q (0, 0, 0)).2.1 = (K : Int) := ⟨((l.getD q (0, 0, 0)).2.1).toNat, by omega⟩
  have hxi : x / sizeF (l.getD q (0, 0, 0)).2.1 = (l.getD q (0, 0, 0)).1 / sizeF (l.getD q (0, 0, 0)).2.1 := by
    have h := hx
    unfold hasF at h
    rw [decide_eq_true_eq] at h
    exact h
  have hbest : ∀ e, e ∈ tabF rs n l j l.length → hasF e.1 e.2.1 x = true → e.2.1 = (l.getD q (0, 0, 0)).2.1 ∧ e.2.2 = viaF ((end31 rs (l.getD q (0, 0, 0)).2.2 n).getD j []) (l.getD q (0, 0, 0)).2.2 := fun e he hex => by
    obtain ⟨p, hp, e1, e2, e3, e4⟩ := tabF_ranges rs n l j l.length e he
    rw [e1, e2] at hex
    obtain rfl := apart_one hok ha hp hq hex hx
    exact ⟨e2, e4⟩
  have hpos := via_pos hn hj hne
  unfold nextF
  rw [show ((j : Int) + 1 - 1).toNat = j by omega, sendTabs_get hok hn hj]
  refine fV_at (K := K) (by omega) ?_ 9 (by omega) (fun k h1 h2 => ?_)
  · rw [← hK]
    exact vF_same ⟨_, hmem, hK, by rw [hxi]⟩ (fun e he e1 e2 => (hbest e he (by unfold hasF; rw [decide_eq_true_eq, e2]; rw [e1, ← hK])).2)
  · refine vF_zero (fun e he h => ?_)
    have := (hbest e he (by unfold hasF; rw [decide_eq_true_eq, h.2, h.1])).1
    rw [h.1, hK] at this
    omega
/-- a packet gets home, or goes nowhere -/
theorem send_home {rs : List (List Int)} {l : List Ent} {n j : Nat} {x : Int} (hok : homesOkF rs l = true) (hn : rs.length = n) (h1 : 1 ≤ n) (h5 : n ≤ 5) (ha : Apart l) (hx : addrF x = true) (hj : j < n) :
    (nextF (sendTabsF rs l n) x ((j : Int) + 1) = 0 ∧ wayF (sendTabsF rs l n) ((j : Int) + 1) x = ([(j : Int) + 1], false)) ∨
    (∃ q, q < l.length ∧ hasF (l.getD q (0, 0, 0)).1 (l.getD q (0, 0, 0)).2.1 x = true ∧ (end31 rs (l.getD q (0, 0, 0)).2.2 n).getD j [] ≠ [] ∧ nextF (sendTabsF rs l n) x ((j : Int) + 1) ≠ 0 ∧
      wayF (sendTabsF rs l n) ((j : Int) + 1) x = ((end31 rs (l.getD q (0, 0, 0)).2.2 n).getD j [], true)) := by
  have hwf : wayF (sendTabsF rs l n) ((j : Int) + 1) x = goW (nextF (sendTabsF rs l n) x) n n ((j : Int) + 1) [(j : Int) + 1] := by
    unfold wayF
    rw [if_pos ⟨tabs_ok hok hn h1 h5, by omega, by rw [sendTabs_len2 hok]; omega, hx⟩, sendTabs_len2 hok]
  have hzero : nextF (sendTabsF rs l n) x ((j : Int) + 1) = 0 → wayF (sendTabsF rs l n) ((j : Int) + 1) x = ([(j : Int) + 1], false) := fun h0 => by
    rw [hwf]
    obtain ⟨m, rfl⟩ : ∃ m, n = m + 1 := ⟨n - 1, by omega⟩
    unfold goW
    rw [if_neg (by omega), if_pos (by omega)]
  by_cases hex : ∃ q, q < l.length ∧ hasF (l.getD q (0, 0, 0)).1 (l.getD q (0, 0, 0)).2.1 x = true
  · obtain ⟨q, hq, hqx⟩ := hex
    have hnone : ∀ i, i < n → (end31 rs (l.getD q (0, 0, 0)).2.2 n).getD i [] = [] → nextF (sendTabsF rs l n) x ((i : Int) + 1) = 0 := fun i hi he => next_none hok hn hi (fun q' hq' hx' => by rw [← apart_one hok ha hq hq' hqx hx']; exact he)
    by_cases hne : (end31 rs (l.getD q (0, 0, 0)).2.2 n).getD j [] = []
    · have h0 := hnone j hj hne
      exact .inl ⟨h0, hzero h0⟩
    · refine .inr ⟨q, hq, hqx, hne, ?_, ?_⟩
      · rw [next_at hok ha hn hj hq hqx hne]
        have := via_pos hn hj hne
        omega
      · rw [hwf]
        refine goW_rest (end_tail hn (relsOk_mirror hn (homesOk_all hok).1)) (endTo31_good hn _) (fun i hi => (endTo31_ways (home := (l.getD q (0, 0, 0)).2.2) hn h1 _).inn i hi) (fun h h1 h2 => ?_) hj hne
        obtain ⟨i, rfl⟩ : ∃ i : Nat, h = (i : Int) + 1 := ⟨(h - 1).toNat, by omega⟩
        have hi : i < n := by omega
        unfold goF
        rw [show ((i : Int) + 1 - 1).toNat = i by omega]
        split
        · rename_i he; exact hnone i hi he
        · rename_i he; exact next_at hok ha hn hi hq hqx he
  · have h0 := next_none hok hn hj (x := x) (fun q hq hqx => absurd ⟨q, hq, hqx⟩ hex)
    exact .inl ⟨h0, hzero h0⟩
theorem home_last {rs : List (List Int)} {l : List Ent} {n j q i : Nat} {x : Int} {e : Ent} (hok : homesOkF rs l = true) (hn : rs.length = n) (h1 : 1 ≤ n) (ha : Apart l) (hj : j < n)
    (hq : q < l.length) (hqx : hasF (l.getD q (0, 0, 0)).1 (l.getD q (0, 0, 0)).2.1 x = true) (hne : (end31 rs (l.getD q (0, 0, 0)).2.2 n).getD j [] ≠ []) (hi : i < l.length)
    (hex : hasF e.1 e.2.1 x = true) (e1 : (l.getD i (0, 0, 0)).1 = e.1) (e2 : (l.getD i (0, 0, 0)).2.1 = e.2.1) :
    ((end31 rs (l.getD q (0, 0, 0)).2.2 n).getD j []).getD (((end31 rs (l.getD q (0, 0, 0)).2.2 n).getD j []).length - 1) 0 = (l.getD i (0, 0, 0)).2.2 := by
  rw [← e1, ← e2] at hex
  obtain rfl := apart_one hok ha hi hq hex hqx
  exact last_home (end_tail hn (relsOk_mirror hn (homesOk_all hok).1)) hj hne
theorem end_good {rs : List (List Int)} {ho : Int} {n j : Nat} (hn : rs.length = n) (h1 : 1 ≤ n) (h5 : n ≤ 5) (hj : j < n) : GoodP ((end31 rs ho n).getD j []) :=
  goodP_of (fun z hz => by have := (endTo31_ways (home := ho) hn h1 _).inn j hj z hz; omega) (endTo31_good hn _ j hj)
theorem next_has {rs : List (List Int)} {l : List Ent} {n j : Nat} {x : Int} (hok : homesOkF rs l = true) (hn : rs.length = n) (hj : j < n) (h : nextF (sendTabsF rs l n) x ((j : Int) + 1) ≠ 0) :
    ∃ k, k < (tabF rs n l j l.length).length ∧ hasF ((tabF rs n l j l.length).getD k (0, 0, 0)).1 ((tabF rs n l j l.length).getD k (0, 0, 0)).2.1 x = true := by
  by_cases hex : ∃ k, k < (tabF rs n l j l.length).length ∧ hasF ((tabF rs n l j l.length).getD k (0, 0, 0)).1 ((tabF rs n l j l.length).getD k (0, 0, 0)).2.1 x = true
  · exact hex
  · exfalso
    apply h
    unfold nextF
    rw [show ((j : Int) + 1 - 1).toNat = j by omega, sendTabs_get hok hn hj]
    refine fV_none 9 (fun k hk => vF_zero (fun e he h' => ?_))
    obtain ⟨i, hi, rfl⟩ := List.getElem_of_mem he
    refine hex ⟨i, hi, ?_⟩
    rw [List.getD_eq_getElem?_getD, List.getElem?_eq_getElem hi]
    simp only [Option.getD_some]
    unfold hasF
    rw [decide_eq_true_eq, h'.2, h'.1]
end Go.Proofs.YtlpibfafpljedaaGreatDoor
