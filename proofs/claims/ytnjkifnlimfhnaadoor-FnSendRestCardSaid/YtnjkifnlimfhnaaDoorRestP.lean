/- Plain: a way that ends at home holds each house once, and from any house of it on a packet goes the rest. -/
import Derived.Test.YtnjkifnlimfhnaaDoorLawSendWay
import Derived.Test.YtnjkifnlimfhnaaDoorPathI
namespace Go.Proofs.YtnjkifnlimfhnaaDoor
set_option linter.unusedVariables false

theorem goW_list {f : Int → Int} {n : Nat} : ∀ (rest : List Int) (h : Int) (k : Nat) (acc : List Int), rest.length + 1 ≤ k →
    (∀ i, i < rest.length → f ((h :: rest).getD i 0) = (h :: rest).getD (i + 1) 0 ∧ (h :: rest).getD (i + 1) 0 ≠ (h :: rest).getD i 0) → (∀ z, z ∈ rest → 1 ≤ z ∧ z ≤ (n : Int)) →
    f ((h :: rest).getD rest.length 0) = (h :: rest).getD rest.length 0 → goW f n k h acc = (acc ++ rest, true)
  | [], h, 0, acc, hk, _, _, _ => by simp at hk
  | [], h, k + 1, acc, hk, _, _, hl => by
    have hl : f h = h := by simpa using hl
    unfold goW
    rw [if_pos hl, List.append_nil]
  | y :: t, h, 0, acc, hk, _, _, _ => by simp at hk
  | y :: t, h, k + 1, acc, hk, hc, hin, hl => by
    have h0 := hc 0 (by simp)
    have e0 : f h = y := by simpa using h0.1
    have n0 : y ≠ h := by simpa using h0.2
    have hy := hin y (List.mem_cons_self ..)
    unfold goW
    rw [e0, if_neg n0, if_neg (by omega), goW_list t y k (acc ++ [y]) (by simp at hk; omega) (fun i hi => by have := hc (i + 1) (by simp; omega); simpa using this) (fun z hz => hin z (List.mem_cons_of_mem _ hz)) (by simpa using hl)]
    simp
theorem goW_true {f : Int → Int} {n : Nat} : ∀ (k : Nat) (h : Int) (way : List Int), (goW f n k h way).2 = true → (goW f n k h way).1.length + 1 ≤ way.length + k
  | 0, h, way, e => by cases e
  | k + 1, h, way, e => by
    unfold goW at e ⊢
    split
    · simp
    · rename_i hne
      rw [if_neg hne] at e
      split
      · rename_i hb
        rw [if_pos hb] at e
        cases e
      · rename_i hb
        rw [if_neg hb] at e
        have := goW_true k (f h) _ e
        simp at this
        omega
theorem chain_it {f : Int → Int} {n : Nat} {w0 last : Int} {way : List Int} (c : Chain31 f n w0 way last) : ∀ i, i < way.length → way.getD i 0 = itF f w0 i
  | 0, hi => c.first
  | i + 1, hi => by rw [(c.step i hi).1, chain_it c i (by omega)]; rfl
theorem chain_once {f : Int → Int} {n : Nat} {w0 last : Int} {way : List Int} (c : Chain31 f n w0 way last) (hl : f last = last) {i j : Nat} (hij : i < j) (hj : j < way.length) : way.getD i 0 ≠ way.getD j 0 := by
  intro e
  rw [chain_it c i (by omega), chain_it c j hj] at e
  obtain ⟨m, hm⟩ : ∃ m, way.length = m + 1 := ⟨way.length - 1, by have := c.pos; omega⟩
  have hlast := c.last
  rw [show way.length - 1 = m by omega, chain_it c m (by omega)] at hlast
  have hst : f (itF f w0 m) = itF f w0 m := by rw [hlast]; exact hl
  obtain ⟨d, rfl⟩ : ∃ d, j = i + d := ⟨j - i, by omega⟩
  have h2 := itF_cyc e m
  have h3 : itF f w0 (i + m * d) = itF f w0 m := by
    obtain ⟨q, hq⟩ : ∃ q, i + m * d = m + q := ⟨i + m * d - m, by
      have : m * 1 ≤ m * d := Nat.mul_le_mul_left m (by omega)
      omega⟩
    rw [hq]; exact itF_stay hst q
  rw [h3] at h2
  have h4 := c.step i (by omega)
  rw [chain_it c i (by omega), h2, hst] at h4
  exact h4.2 h4.1
/-- a way that ends at home -/
theorem way_rest {ls : List (List Ent)} {h x : Int} (h5 : ls.length ≤ 5) (hok : (wayF ls h x).2 = true) :
    GoodP (wayF ls h x).1 ∧ 1 ≤ (wayF ls h x).1.length ∧ ∀ k, k < (wayF ls h x).1.length → wayF ls ((wayF ls h x).1.getD k 0) x = ((wayF ls h x).1.drop k, true) := by
  by_cases hd : tablesOkF ls = true ∧ 1 ≤ h ∧ h ≤ (ls.length : Int) ∧ addrF x = true
  · have e : wayF ls h x = goW (nextF ls x) ls.length ls.length h [h] := by unfold wayF; rw [if_pos hd]
    obtain ⟨hto, h1, hn, ha⟩ := hd
    have c0 : Chain31 (nextF ls x) ls.length h [h] h := ⟨by simp, rfl, rfl, fun i hi => by simp at hi, fun i hi => by
      obtain rfl : i = 0 := by simp at hi; omega
      exact ⟨h1, hn⟩⟩
    obtain ⟨last, c, he⟩ := goW_chain ls.length h [h] c0 (fun hgo => no_end h1 hn hgo)
    rw [e] at hok
    have hlen := goW_true _ _ _ hok
    rw [hok] at he
    have hl : nextF ls x last = last := by simpa using he.symm
    rw [← e] at c hlen
    clear hok e he
    obtain ⟨way, hway⟩ : ∃ l, (wayF ls h x).1 = l := ⟨_, rfl⟩
    rw [hway] at c hlen ⊢
    refine ⟨⟨fun j hj => by have := c.inn j hj; omega, fun i j hij hj => chain_once c hl hij hj⟩, c.pos, fun k hk => ?_⟩
    have hin := c.inn k hk
    have hdr : way.drop k = way.getD k 0 :: way.drop (k + 1) := by
      rw [List.drop_eq_getElem_cons hk, List.getD_eq_getElem?_getD, List.getElem?_eq_getElem hk]; rfl
    have hg : ∀ i, (way.getD k 0 :: way.drop (k + 1)).getD i 0 = way.getD (k + i) 0 := fun i => by
      rw [← hdr, List.getD_eq_getElem?_getD, List.getElem?_drop, ← List.getD_eq_getElem?_getD]
    have hdl : (way.drop (k + 1)).length = way.length - (k + 1) := List.length_drop ..
    unfold wayF
    rw [if_pos ⟨hto, hin.1, hin.2, ha⟩, goW_list (way.drop (k + 1)) (way.getD k 0) ls.length [way.getD k 0] (by rw [hdl]; simp at hlen; omega) (fun i hi => by
      rw [hg, hg]
      have := c.step (k + i) (by omega)
      exact ⟨this.1.symm, this.2⟩) (fun z hz => by
      obtain ⟨i, hi, rfl⟩ := List.mem_iff_getElem.1 hz
      have := c.inn (k + 1 + i) (by omega)
      rw [List.getElem_drop]
      rw [List.getD_eq_getElem?_getD, List.getElem?_eq_getElem (by omega)] at this
      exact this) (by
      rw [hg, hdl]
      have := c.last
      rw [show k + (way.length - (k + 1)) = way.length - 1 by omega, this]; exact hl), hdr]
    rfl
  · unfold wayF at hok
    rw [if_neg hd] at hok
    cases hok
end Go.Proofs.YtnjkifnlimfhnaaDoor
