/- The walk of FnSendWay. -/
import Derived.Test.YtnjkifnlimfhnaaDoorSendDraw
import Derived.Test.YtnjkifnlimfhnaaDoorWayS
import Derived.Test.YtnjkifnlimfhnaaDoorRanksInts
namespace Go.Proofs.YtnjkifnlimfhnaaDoor
open Go.RowKit
set_option linter.unusedVariables false

/-- houses, each the next one of the one before -/
structure Chain31 (f : Int → Int) (n : Nat) (w0 : Int) (way : List Int) (last : Int) : Prop where
  pos : 1 ≤ way.length
  first : way.getD 0 0 = w0
  last : way.getD (way.length - 1) 0 = last
  step : ∀ i, i + 1 < way.length → way.getD (i + 1) 0 = f (way.getD i 0) ∧ way.getD (i + 1) 0 ≠ way.getD i 0
  inn : ∀ i, i < way.length → 1 ≤ way.getD i 0 ∧ way.getD i 0 ≤ (n : Int)
theorem snoc_getD (way : List Int) (y : Int) (i : Nat) (hi : i < way.length) : (way ++ [y]).getD i 0 = way.getD i 0 := by simp only [List.getD_eq_getElem?_getD]; rw [List.getElem?_append_left hi]
theorem snoc_last (way : List Int) (y : Int) : (way ++ [y]).getD way.length 0 = y := by simp
theorem Chain31.snoc {f : Int → Int} {n : Nat} {w0 : Int} {way : List Int} {h : Int} (c : Chain31 f n w0 way h) (hne : f h ≠ h) (h1 : 1 ≤ f h) (hn : f h ≤ (n : Int)) : Chain31 f n w0 (way ++ [f h]) (f h) := by
  have hp := c.pos
  have hl : (way ++ [f h]).length = way.length + 1 := by simp
  refine ⟨by omega, by rw [snoc_getD _ _ _ (by omega)]; exact c.first, by rw [hl, Nat.add_sub_cancel]; exact snoc_last _ _, fun i hi => ?_, fun i hi => ?_⟩
  · rw [hl] at hi
    by_cases hil : i + 1 < way.length
    · rw [snoc_getD _ _ _ hil, snoc_getD _ _ _ (by omega)]; exact c.step i hil
    · have e : i + 1 = way.length := by omega
      have el := c.last
      rw [show way.length - 1 = i by omega] at el
      rw [e, snoc_last, snoc_getD _ _ _ (by omega), el]
      exact ⟨rfl, hne⟩
  · rw [hl] at hi
    by_cases hil : i < way.length
    · rw [snoc_getD _ _ _ hil]; exact c.inn i hil
    · obtain rfl : i = way.length := by omega
      rw [snoc_last]; exact ⟨h1, hn⟩
theorem goW_chain {f : Int → Int} {n : Nat} {w0 : Int} : ∀ (k : Nat) (h : Int) (way : List Int), Chain31 f n w0 way h → ((∀ j, j < k → f (itF f h j) ≠ itF f h j ∧ 1 ≤ f (itF f h j) ∧ f (itF f h j) ≤ (n : Int)) → f (itF f h k) ≠ itF f h k) →
    ∃ last, Chain31 f n w0 (goW f n k h way).1 last ∧ (goW f n k h way).2 = decide (f last = last)
  | 0, h, way, c, hne => by
    have := hne (fun j hj => by omega)
    simp only [itF] at this
    exact ⟨h, c, by show false = _; rw [decide_eq_false this]⟩
  | k + 1, h, way, c, hne => by
    have e2 : goW f n (k + 1) h way = if f h = h then (way, true) else if f h < 1 ∨ (n : Int) < f h then (way, false) else goW f n k (f h) (way ++ [f h]) := rfl
    rw [e2]
    by_cases a : f h = h
    · rw [if_pos a]; exact ⟨h, c, by rw [decide_eq_true a]⟩
    · rw [if_neg a]
      by_cases b : f h < 1 ∨ (n : Int) < f h
      · rw [if_pos b]; exact ⟨h, c, by rw [decide_eq_false a]⟩
      · rw [if_neg b]
        refine goW_chain k (f h) _ (c.snoc a (by omega) (by omega)) (fun hj => ?_)
        rw [itF_shift]
        refine hne (fun j hjk => ?_)
        cases j with
        | zero => exact ⟨a, by simp only [itF]; omega, by simp only [itF]; omega⟩
        | succ j => have := hj j (by omega); rw [itF_shift] at this; exact this
theorem send_drew {P : Program} {f : FuncId} {args : Array Value} {w : World} {v : Value} (h : Calls P f args w fun e w' => e = .returned v ∧ Drew w w') : Calls P f args w fun e w' => e = .returned v ∧ Below w.heap.size w w' := h.mono fun e w' h => ⟨h.1, h.2.below _⟩
theorem send_next {ls : List (List Ent)} {x y : Int} (hok : tablesOkF ls = true) (ha : addrF x = true) (h1 : 1 ≤ y) (hn : y ≤ (ls.length : Int)) : sendF ls y x = nextF ls x y := by
  unfold sendF nextF
  rw [if_pos ⟨hok, h1, hn, ha⟩]
theorem way_facts (ls : List (List Ent)) (h x : Int) : wayF ls h x = ([], false) ∨ ∃ last, 1 ≤ (wayF ls h x).1.length ∧ (wayF ls h x).1.length ≤ ls.length + 1 ∧ (wayF ls h x).1.getD 0 0 = h ∧ (wayF ls h x).1.getD ((wayF ls h x).1.length - 1) 0 = last ∧
    (∀ i, i + 1 < (wayF ls h x).1.length → sendF ls ((wayF ls h x).1.getD i 0) x = (wayF ls h x).1.getD (i + 1) 0 ∧ (wayF ls h x).1.getD (i + 1) 0 ≠ (wayF ls h x).1.getD i 0) ∧ (wayF ls h x).2 = decide (sendF ls last x = last) := by
  by_cases hd : tablesOkF ls = true ∧ 1 ≤ h ∧ h ≤ (ls.length : Int) ∧ addrF x = true
  · right
    have e : wayF ls h x = goW (nextF ls x) ls.length ls.length h [h] := by unfold wayF; rw [if_pos hd]
    obtain ⟨hok, h1, hn, ha⟩ := hd
    have c0 : Chain31 (nextF ls x) ls.length h [h] h := ⟨by simp, rfl, rfl, fun i hi => by simp at hi, fun i hi => by
      obtain rfl : i = 0 := by simp at hi; omega
      exact ⟨h1, hn⟩⟩
    obtain ⟨last, c, he⟩ := goW_chain ls.length h [h] c0 (fun hgo => no_end h1 hn hgo)
    have hlen := goW_len (nextF ls x) ls.length ls.length h [h]
    rw [← e] at c he hlen
    have hp := c.pos
    have hlast := c.inn ((wayF ls h x).1.length - 1) (by omega)
    rw [c.last] at hlast
    refine ⟨last, c.pos, by simp at hlen; omega, c.first, c.last, fun i hi => ?_, by rw [he, send_next hok ha hlast.1 hlast.2]⟩
    have hin := c.inn i (by omega)
    have hst := c.step i hi
    exact ⟨by rw [send_next hok ha hin.1 hin.2]; exact hst.1.symm, hst.2⟩
  · left; unfold wayF; rw [if_neg hd]
end Go.Proofs.YtnjkifnlimfhnaaDoor
