/- Plain: of two ranges that share an address one lies in the other; what is found at home; ways to one range. -/
import Derived.Test.YtlpibfafpljedaaGreatDoorSendT
import Derived.Test.YtlpibfafpljedaaGreatDoorRngIn
import Derived.Test.YtlpibfafpljedaaGreatDoorWayS
namespace Go.Proofs.YtlpibfafpljedaaGreatDoor
set_option linter.unusedVariables false

theorem sizeF_split {b1 b2 : Int} (h0 : 0 ≤ b1) (h : b1 ≤ b2) (h8 : b2 ≤ 8) : sizeF b1 = sizeF b2 * 2 ^ (b2 - b1).toNat := by
  unfold sizeF
  rw [← Int.pow_add]
  congr 1
  omega
/-- the same of more bits is the same of fewer -/
theorem coarse {b1 b2 x y : Int} (h0 : 0 ≤ b1) (h : b1 ≤ b2) (h8 : b2 ≤ 8) (e : x / sizeF b2 = y / sizeF b2) : x / sizeF b1 = y / sizeF b1 := by
  rw [sizeF_split h0 h h8, ← Int.ediv_ediv_of_nonneg (Int.le_of_lt (sizeF_pos b2)), ← Int.ediv_ediv_of_nonneg (Int.le_of_lt (sizeF_pos b2)), e]
/-- two ranges that share an address: the smaller lies in the larger -/
theorem nested {f b f2 b2 x : Int} (hr : rangeOkF f b = true) (hr2 : rangeOkF f2 b2 = true) (hle : b2 ≤ b) (h1 : hasF f b x = true) (h2 : hasF f2 b2 x = true) : inF f b f2 b2 = true := by
  obtain ⟨p0, p8, _⟩ := rangeOk_parts hr
  obtain ⟨q0, q8, _⟩ := rangeOk_parts hr2
  unfold inF hasF
  rw [decide_eq_true hle, Bool.true_and, decide_eq_true_eq]
  unfold hasF at h1 h2
  rw [decide_eq_true_eq] at h1 h2
  have := coarse q0 hle p8 h1
  rw [← this]; exact h2
theorem has_first {f b : Int} (hr : rangeOkF f b = true) : hasF f b f = true := by unfold hasF; simp
theorem range_top {f b : Int} (hr : rangeOkF f b = true) : f + sizeF b ≤ 256 := by
  obtain ⟨h0, h8, h1, h2, h3⟩ := rangeOk_parts hr
  have : b = 0 ∨ b = 1 ∨ b = 2 ∨ b = 3 ∨ b = 4 ∨ b = 5 ∨ b = 6 ∨ b = 7 ∨ b = 8 := by omega
  rcases this with rfl | rfl | rfl | rfl | rfl | rfl | rfl | rfl | rfl <;> simp [sizeF] at h3 ⊢ <;> omega
theorem fV_congr {u v : Nat → Int → Int} {x y : Int} : ∀ n : Nat, (∀ k, k < n → u k (x / sizeF k) = v k (y / sizeF k)) → fV u x n = fV v y n
  | 0, _ => rfl
  | n + 1, h => by
    rw [fV_succ, fV_succ, h n (by omega), fV_congr n (fun k hk => h k (by omega))]
theorem vF_congr {l : List Ent} {k : Nat} {x y : Int} (h : ∀ e, e ∈ l → hasF e.1 e.2.1 x = hasF e.1 e.2.1 y) : vF l k (x / sizeF k) = vF l k (y / sizeF k) := by
  unfold vF
  generalize (0 : Int) = z
  induction l generalizing z with
  | nil => rfl
  | cons a t ih =>
    rw [List.foldl_cons, List.foldl_cons]
    have ha := h a (List.mem_cons_self ..)
    have e : (a.2.1 = (k : Int) ∧ a.1 / sizeF a.2.1 = x / sizeF k) ↔ (a.2.1 = (k : Int) ∧ a.1 / sizeF a.2.1 = y / sizeF k) := by
      constructor
      · rintro ⟨e1, e2⟩
        refine ⟨e1, ?_⟩
        have : hasF a.1 a.2.1 x = true := by unfold hasF; rw [decide_eq_true_eq, e2, e1]
        rw [ha] at this
        unfold hasF at this
        rw [decide_eq_true_eq] at this
        rw [← this, e1]
      · rintro ⟨e1, e2⟩
        refine ⟨e1, ?_⟩
        have : hasF a.1 a.2.1 y = true := by unfold hasF; rw [decide_eq_true_eq, e2, e1]
        rw [← ha] at this
        unfold hasF at this
        rw [decide_eq_true_eq] at this
        rw [← this, e1]
    by_cases hc : a.2.1 = (k : Int) ∧ a.1 / sizeF a.2.1 = x / sizeF k
    · rw [if_pos hc, if_pos (e.1 hc)]; exact ih (fun e he => h e (List.mem_cons_of_mem _ he)) _
    · rw [if_neg hc, if_neg (fun h' => hc (e.2 h'))]; exact ih (fun e he => h e (List.mem_cons_of_mem _ he)) _
theorem tabs_ok {rs : List (List Int)} {l : List Ent} {n : Nat} (hok : homesOkF rs l = true) (hn : rs.length = n) (h1 : 1 ≤ n) (h5 : n ≤ 5) : tablesOkF (sendTabsF rs l n) = true :=
  tablesOk_good (by rw [sendTabs_len2 hok]; exact h1) (by rw [sendTabs_len2 hok]; exact h5) (fun i hi => by
    rw [sendTabs_len2 hok] at hi
    rw [sendTabs_get hok hn hi]
    exact tabF_ok hn h5 hi hok)
/-- ways to one range, if no smaller one is there -/
theorem many_same {rs : List (List Int)} {l : List Ent} {n i : Nat} {a b : Int} (hok : homesOkF rs l = true) (hn : rs.length = n) (h1 : 1 ≤ n) (h5 : n ≤ 5) (hi : i < l.length)
    (hal : ∀ k, k < l.length → k ≠ i → inF (l.getD k (0, 0, 0)).1 (l.getD k (0, 0, 0)).2.1 (l.getD i (0, 0, 0)).1 (l.getD i (0, 0, 0)).2.1 = false)
    (ha : hasF (l.getD i (0, 0, 0)).1 (l.getD i (0, 0, 0)).2.1 a = true) (hb : hasF (l.getD i (0, 0, 0)).1 (l.getD i (0, 0, 0)).2.1 b = true) (a0 : addrF a = true) (b0 : addrF b = true) (h : Int) :
    wayF (sendTabsF rs l n) h a = wayF (sendTabsF rs l n) h b := by
  have hroi := (homes_house hok hi).2.2
  have key : ∀ x y : Int, hasF (l.getD i (0, 0, 0)).1 (l.getD i (0, 0, 0)).2.1 x = true → hasF (l.getD i (0, 0, 0)).1 (l.getD i (0, 0, 0)).2.1 y = true → ∀ q, q < l.length → hasF (l.getD q (0, 0, 0)).1 (l.getD q (0, 0, 0)).2.1 x = true → hasF (l.getD q (0, 0, 0)).1 (l.getD q (0, 0, 0)).2.1 y = true := fun x y hx hy q hq hqx => by
    by_cases hqi : q = i
    · subst hqi; exact hy
    · have hroq := (homes_house hok hq).2.2
      obtain ⟨q0, q8, _⟩ := rangeOk_parts hroq
      obtain ⟨i0, i8, _⟩ := rangeOk_parts hroi
      by_cases hle : (l.getD i (0, 0, 0)).2.1 ≤ (l.getD q (0, 0, 0)).2.1
      · have := nested hroq hroi hle hqx hx
        rw [hal q hq hqi] at this
        cases this
      · unfold hasF at hx hy hqx ⊢
        rw [decide_eq_true_eq] at hx hy hqx ⊢
        rw [← hqx]
        exact (coarse q0 (by omega) i8 (hx.trans hy.symm)).symm
  have hnx : nextF (sendTabsF rs l n) a = nextF (sendTabsF rs l n) b := by
    funext z
    unfold nextF
    refine fV_congr 9 (fun k _ => vF_congr (fun e he => ?_))
    by_cases hz : (z - 1).toNat < n
    · rw [sendTabs_get hok hn hz] at he
      obtain ⟨q, hq, e1, e2, _⟩ := tabF_ranges rs n l _ _ e he
      rw [e1, e2]
      cases h1 : hasF (l.getD q (0, 0, 0)).1 (l.getD q (0, 0, 0)).2.1 a
      · cases h2 : hasF (l.getD q (0, 0, 0)).1 (l.getD q (0, 0, 0)).2.1 b
        · rfl
        · rw [key b a hb ha q hq h2] at h1; cases h1
      · rw [key a b ha hb q hq h1]
    · rw [List.getD_eq_getElem?_getD, List.getElem?_eq_none (by rw [sendTabs_len2 hok]; omega)] at he
      simp at he
  unfold wayF
  rw [hnx, a0, b0]
/-- at home a packet is there -/
theorem own_way {rs : List (List Int)} {l : List Ent} {n i : Nat} {x : Int} (hok : homesOkF rs l = true) (hn : rs.length = n) (h1 : 1 ≤ n) (h5 : n ≤ 5) (hi : i < l.length)
    (hx : hasF (l.getD i (0, 0, 0)).1 (l.getD i (0, 0, 0)).2.1 x = true) (ha : addrF x = true)
    (hsm : ∀ k, k < l.length → k ≠ i → inF (l.getD k (0, 0, 0)).1 (l.getD k (0, 0, 0)).2.1 (l.getD i (0, 0, 0)).1 (l.getD i (0, 0, 0)).2.1 = true → hasF (l.getD k (0, 0, 0)).1 (l.getD k (0, 0, 0)).2.1 x = false) :
    wayF (sendTabsF rs l n) (l.getD i (0, 0, 0)).2.2 x = ([(l.getD i (0, 0, 0)).2.2], true) := by
  obtain ⟨o1, o2, hroi⟩ := homes_house hok hi
  rw [hn] at o2
  obtain ⟨j, hj⟩ : ∃ j : Nat, (l.getD i (0, 0, 0)).2.2 = (j : Int) + 1 := ⟨((l.getD i (0, 0, 0)).2.2 - 1).toNat, by omega⟩
  have hjn : j < n := by omega
  obtain ⟨v1, v2⟩ := via_own (rs := rs) (ho := (l.getD i (0, 0, 0)).2.2) hjn hj.symm
  have hmem := tabF_has rs n l j l.length i hi v1
  obtain ⟨i0, i8, _⟩ := rangeOk_parts hroi
  obtain ⟨K, hK⟩ : ∃ K : Nat, (l.getD i (0, 0, 0)).2.1 = (K : Int) := ⟨((l.getD i (0, 0, 0)).2.1).toNat, by omega⟩
  have hxi : x / sizeF (l.getD i (0, 0, 0)).2.1 = (l.getD i (0, 0, 0)).1 / sizeF (l.getD i (0, 0, 0)).2.1 := by
    unfold hasF at hx
    rw [decide_eq_true_eq] at hx
    exact hx
  have hbest : ∀ e, e ∈ tabF rs n l j l.length → hasF e.1 e.2.1 x = true → (l.getD i (0, 0, 0)).2.1 ≤ e.2.1 → e.2.1 = (l.getD i (0, 0, 0)).2.1 ∧ e.2.2 = (l.getD i (0, 0, 0)).2.2 := fun e he hex hle => by
    obtain ⟨q, hq, e1, e2, e3, e4⟩ := tabF_ranges rs n l j l.length e he
    by_cases hqi : q = i
    · subst hqi
      exact ⟨e2, by rw [e4, v2]⟩
    · have hroq := (homes_house hok hq).2.2
      rw [e1, e2] at hex
      rw [e2] at hle
      have := nested hroq hroi hle hex hx
      rw [hsm q hq hqi this] at hex
      cases hex
  have hf : nextF (sendTabsF rs l n) x ((j : Int) + 1) = (j : Int) + 1 := by
    unfold nextF
    rw [show ((j : Int) + 1 - 1).toNat = j by omega, sendTabs_get hok hn hjn, ← hj]
    refine fV_at (K := K) (by omega) ?_ 9 (by omega) (fun k h1 h2 => ?_)
    · rw [← hK]
      refine vF_same ⟨_, hmem, hK, by rw [hxi]⟩ (fun e he e1 e2 => ?_)
      exact (hbest e he (by unfold hasF; rw [decide_eq_true_eq, e2]; rw [e1, ← hK]) (by rw [e1, hK]; exact Int.le_refl _)).2
    · refine vF_zero (fun e he h => ?_)
      have := (hbest e he (by unfold hasF; rw [decide_eq_true_eq, h.2, h.1]) (by rw [h.1]; omega)).1
      rw [h.1, hK] at this
      omega
  rw [hj]
  unfold wayF
  rw [if_pos ⟨tabs_ok hok hn h1 h5, by omega, by rw [sendTabs_len2 hok]; omega, ha⟩, sendTabs_len2 hok]
  obtain ⟨m, rfl⟩ : ∃ m, n = m + 1 := ⟨n - 1, by omega⟩
  unfold goW
  rw [if_pos hf]
end Go.Proofs.YtlpibfafpljedaaGreatDoor
