/- laws.lyWays of the same ways; a slice that is copied anew, and appended to. -/
import Derived.Test.YtbbhnnbpeiodnaaDoorRanksLy
import Derived.Test.YtbbhnnbpeiodnaaDoorRanksDraws2
namespace Go.Proofs.YtbbhnnbpeiodnaaDoor
open Go.RowKit
set_option linter.unusedVariables false
set_option maxRecDepth 100000
theorem cells_new (W : World) (vs : List Value) (T : TypeId) : ∀ j u, vs[j]? = some u → (W.alloc (.cells vs.toArray T)).cell? ((⟨W.heap.size, 0, none⟩ : Addr).add j) = some u := by
  intro j u hj
  rw [Addr.add_lit, Nat.zero_add, cell_of_row _ _ _ vs.toArray T (0, 0) (heap_alloc_new W _)]
  simpa using hj
theorem ints_src {W : World} {b n c : Nat} {l : List Int} (h : IntsAt W (.slice (some ⟨b, 0, none⟩) n c) l) (o : Obj) : ∀ j u, (l.map (Value.int .i64))[j]? = some u → (W.alloc o).cell? ((⟨b, 0, none⟩ : Addr).add j) = some u := by
  intro j u hj
  have hjn : j < l.length := by
    have := (List.getElem?_eq_some_iff.1 hj).1
    simpa using this
  obtain ⟨e1, _, _⟩ := h.len
  obtain ⟨b', off', e, hb', hx'⟩ := h.get j (by omega)
  simp only [Option.some.injEq, Addr.mk.injEq] at e
  obtain ⟨rfl, rfl, _⟩ := e
  rw [Addr.add_lit]
  refine Lib.cell?_alloc_some _ ?_
  have e : (l.map (Value.int .i64))[j]? = some (Value.int .i64 (l.getD j 0)) := by simp [List.getD, List.getElem?_eq_getElem hjn]
  rw [e] at hj
  rw [← Option.some.inj hj]
  exact hx'
theorem ints_one (l : List Int) : ∀ u ∈ l.map (Value.int .i64), u.oneCell' = true := by intro u hu; obtain ⟨x, _, rfl⟩ := List.mem_map.1 hu; rfl
theorem step_still {r : List (List (List Int))} {ws : List (List Int)} {h : Int} (hs : stillF r ws = true) (hl : ws.length = 3) (h1 : 1 ≤ h) (h3 : h ≤ 3) : stepW r ws h = ws := by
  unfold stepW
  obtain ⟨q, hq⟩ : ∃ q, (h - 1).toNat = q := ⟨_, rfl⟩
  rw [hq]
  have hq3 : q < 3 := by omega
  unfold stillF at hs
  rw [List.all_eq_true] at hs
  have e := of_decide_eq_true (hs q (by simpa using hq3))
  rw [e]
  apply List.ext_getElem (by simp)
  intro i h1 h2
  rw [List.getElem_set]
  split
  · rename_i hqi; subst hqi; rw [List.getD_eq_getElem?_getD, List.getElem?_eq_getElem h2]; rfl
  · rfl
theorem lyWaysOne {l : List (List Int)} : ∀ W u u2, RowsAt W u l → RowsAt W u2 l → Calls Tryd.prog 7 #[u, u2] W fun e w' => e = .returned (.bool true) ∧ Drew W w' := fun W u u2 hu hu2 => by
  have := lyWays_any u u2 l l W hu hu2; simpa using this
end Go.Proofs.YtbbhnnbpeiodnaaDoor
