/- A trie that grows by a node, or by whom one goes from a node. -/
import Derived.Test.YtgpdkplpneklgaaTrie3
namespace Go.Proofs.Ytgpdkplpneklgaa
open Go.RowKit
set_option linter.unusedVariables false

def updM (m : Nat → Int → Option Nat) (K : Nat) (P : Int) (nb : Nat) : Nat → Int → Option Nat := fun k p => if k = K ∧ p = P then some nb else m k p
def updV (v : Nat → Int → Int) (e : Ent) : Nat → Int → Int := fun k p => if e.2.1 = (k : Int) ∧ e.1 / sizeF e.2.1 = p then e.2.2 else v k p
theorem vF_upd (l : List Ent) (e : Ent) : vF (l ++ [e]) = updV (vF l) e := by
  funext k p; rw [vF_snoc]; rfl
theorem set3 {W : World} {b i : Nat} {x y z u : Value} {T : TypeId} (h : W.heap[b]? = some (.cells #[x, y, z] T (0, 0))) : (W.setCell ⟨b, i, none⟩ u).heap[b]? = some (.cells (#[x, y, z].setIfInBounds i u) T (0, 0)) := by
  obtain ⟨hlt, hk⟩ := Array.getElem?_eq_some_iff.1 h
  show (W.heap.modify b _)[b]? = _
  rw [Array.getElem?_eq_getElem (by rw [Array.size_modify]; exact hlt), Array.getElem_modify_self, hk]
  rfl
theorem IsTrie.grow {W : World} {lo : Nat} {m : Nat → Int → Option Nat} {v : Nat → Int → Int} (h : IsTrie W lo m v) {k b : Nat} {p c : Int} (hb : m k p = some b) (hc : c = 0 ∨ c = 1) (hn : m (k + 1) (2 * p + c) = none) (hlo : lo ≤ W.heap.size) :
    IsTrie ((W.alloc (.cells #[.int .i64 0, .pointer none, .pointer none] 116)).setCell ⟨b, 1 + c.toNat, none⟩ (.pointer (some ⟨W.heap.size, 0, none⟩))) lo (updM m (k + 1) (2 * p + c) W.heap.size) v := by
  obtain ⟨hblo, hnode⟩ := h.node k p b hb
  have hbl := (Array.getElem?_eq_some_iff.1 hnode).1
  have hnew : ∀ q, (q = 0 ∨ q = 1) → m (k + 1 + 1) (2 * (2 * p + c) + q) = none := fun q hq => h.shut (k + 1) (2 * p + c) q hq hn
  refine ⟨fun k' p' b' hm => ?_, fun k1 p1 k2 p2 b' h1 h2 => ?_, fun k' p' hm => ?_, fun k' p' c' hc' hm => ?_⟩
  · unfold updM at hm
    by_cases hk : k' = k + 1 ∧ p' = 2 * p + c
    · rw [if_pos hk] at hm
      simp only [Option.some.injEq] at hm
      subst hm
      obtain ⟨rfl, rfl⟩ := hk
      refine ⟨hlo, ?_⟩
      rw [Below.heap_setCell _ _ _ _ (by simp; omega)]
      rw [show (W.alloc (.cells #[.int .i64 0, .pointer none, .pointer none] 116)).heap[W.heap.size]? = some (.cells #[.int .i64 0, .pointer none, .pointer none] 116 (0, 0)) from heap_alloc_new W _]
      have e1 : updM m (k + 1) (2 * p + c) W.heap.size (k + 1 + 1) (2 * (2 * p + c)) = none := by
        unfold updM; rw [if_neg (by omega)]; have := hnew 0 (.inl rfl); simpa using this
      have e2 : updM m (k + 1) (2 * p + c) W.heap.size (k + 1 + 1) (2 * (2 * p + c) + 1) = none := by
        unfold updM; rw [if_neg (by omega)]; exact hnew 1 (.inr rfl)
      rw [e1, e2, h.zero _ _ hn]; rfl
    · rw [if_neg hk] at hm
      obtain ⟨hlo', hnode'⟩ := h.node k' p' b' hm
      have hb'l := (Array.getElem?_eq_some_iff.1 hnode').1
      refine ⟨hlo', ?_⟩
      by_cases hbb : b' = b
      · subst hbb
        obtain ⟨rfl, rfl⟩ := h.inj _ _ _ _ _ hm hb
        rw [set3 ((Below.heap_alloc W _ b' hb'l).trans hnode')]
        rcases hc with rfl | rfl
        · have e1 : updM m (k' + 1) (2 * p' + 0) W.heap.size (k' + 1) (2 * p') = some W.heap.size := by unfold updM; rw [if_pos (by omega)]
          have e2 : updM m (k' + 1) (2 * p' + 0) W.heap.size (k' + 1) (2 * p' + 1) = m (k' + 1) (2 * p' + 1) := by unfold updM; rw [if_neg (by omega)]
          rw [e1, e2]; rfl
        · have e1 : updM m (k' + 1) (2 * p' + 1) W.heap.size (k' + 1) (2 * p' + 1) = some W.heap.size := by unfold updM; rw [if_pos (by omega)]
          have e2 : updM m (k' + 1) (2 * p' + 1) W.heap.size (k' + 1) (2 * p') = m (k' + 1) (2 * p') := by unfold updM; rw [if_neg (by omega)]
          rw [e1, e2]; rfl
      · rw [Below.heap_setCell _ _ _ _ (by simpa using hbb), Below.heap_alloc W _ b' hb'l, hnode']
        have hne : ∀ q, (q = 0 ∨ q = 1) → updM m (k + 1) (2 * p + c) W.heap.size (k' + 1) (2 * p' + q) = m (k' + 1) (2 * p' + q) := fun q hq => by
          unfold updM
          rw [if_neg]
          rintro ⟨e1, e2⟩
          obtain rfl : k' = k := by omega
          have : p' = p := by omega
          subst this
          rw [hm] at hb
          simp only [Option.some.injEq] at hb
          exact hbb hb
        have e1 := hne 0 (.inl rfl)
        have e2 := hne 1 (.inr rfl)
        rw [Int.add_zero] at e1
        rw [e1, e2]
  · unfold updM at h1 h2
    by_cases hk1 : k1 = k + 1 ∧ p1 = 2 * p + c
    · by_cases hk2 : k2 = k + 1 ∧ p2 = 2 * p + c
      · exact ⟨hk1.1.trans hk2.1.symm, hk1.2.trans hk2.2.symm⟩
      · rw [if_pos hk1] at h1
        rw [if_neg hk2] at h2
        simp only [Option.some.injEq] at h1
        have := (Array.getElem?_eq_some_iff.1 (h.node _ _ _ h2).2).1
        omega
    · by_cases hk2 : k2 = k + 1 ∧ p2 = 2 * p + c
      · rw [if_neg hk1] at h1
        rw [if_pos hk2] at h2
        simp only [Option.some.injEq] at h2
        have := (Array.getElem?_eq_some_iff.1 (h.node _ _ _ h1).2).1
        omega
      · rw [if_neg hk1] at h1
        rw [if_neg hk2] at h2
        exact h.inj _ _ _ _ _ h1 h2
  · unfold updM at hm
    by_cases hk : k' = k + 1 ∧ p' = 2 * p + c
    · rw [if_pos hk] at hm; cases hm
    · rw [if_neg hk] at hm; exact h.zero _ _ hm
  · unfold updM at hm ⊢
    by_cases hk : k' = k + 1 ∧ p' = 2 * p + c
    · rw [if_pos hk] at hm; cases hm
    · rw [if_neg hk] at hm
      rw [if_neg]
      · exact h.shut _ _ _ hc' hm
      · rintro ⟨e1, e2⟩
        obtain rfl : k' = k := by omega
        have : p' = p := by omega
        subst this
        rw [hm] at hb; cases hb
theorem IsTrie.setVia {W : World} {lo : Nat} {m : Nat → Int → Option Nat} {v : Nat → Int → Int} (h : IsTrie W lo m v) {b : Nat} {e : Ent} {K : Nat} (hK : e.2.1 = (K : Int)) (hb : m K (e.1 / sizeF e.2.1) = some b) :
    IsTrie (W.setCell ⟨b, 0, none⟩ (.int .i64 e.2.2)) lo m (updV v e) := by
  refine ⟨fun k' p' b' hm => ?_, h.inj, fun k' p' hm => ?_, h.shut⟩
  · obtain ⟨hlo', hnode'⟩ := h.node k' p' b' hm
    refine ⟨hlo', ?_⟩
    by_cases hbb : b' = b
    · subst hbb
      obtain ⟨rfl, rfl⟩ := h.inj _ _ _ _ _ hm hb
      rw [set3 hnode']
      have e1 : updV v e k' (e.1 / sizeF e.2.1) = e.2.2 := by unfold updV; rw [if_pos ⟨hK, rfl⟩]
      rw [e1]; rfl
    · rw [Below.heap_setCell _ _ _ _ (by simpa using hbb), hnode']
      have e1 : updV v e k' p' = v k' p' := by
        unfold updV
        rw [if_neg]
        rintro ⟨e1, e2⟩
        obtain rfl : k' = K := by omega
        rw [← e2, hb] at hm
        simp only [Option.some.injEq] at hm
        exact hbb hm.symm
      rw [e1]
  · unfold updV
    rw [if_neg]
    · exact h.zero _ _ hm
    · rintro ⟨e1, e2⟩
      obtain rfl : k' = K := by omega
      rw [← e2, hb] at hm; cases hm
end Go.Proofs.Ytgpdkplpneklgaa
