/- (*impl.trie).put. -/
import Derived.Test.YtnjkifnlimfhnaaDoorTrie
namespace Go.Proofs.YtnjkifnlimfhnaaDoor
open Go.RowKit
set_option linter.unusedVariables false

theorem IsTrie.noteq {W : World} {lo : Nat} {m : Nat → Int → Option Nat} {v : Nat → Int → Int} (h : IsTrie W lo m v) {g : Nat} {c : Array Value} (hg : W.heap[g]? = some (.cells c 35 (0, 0))) : ∀ k p, m k p ≠ some g := by
  intro k p hm
  have := (h.node k p g hm).2
  rw [hg] at this
  simp at this
/-- what a put leaves behind itself at each round -/
structure PutAt (lo root g : Nat) (v : Nat → Int → Int) (e : Ent) (m : Nat → Int → Option Nat) (w W : World) (k b : Nat) : Prop where
  trie : IsTrie W lo m v
  root : m 0 0 = some root
  at' : m k (e.1 / sizeF (k : Int)) = some b
  box : W.heap[g]? = some (.cells #[.int .i64 e.1, .int .i64 e.2.1, .int .i64 e.2.2] 35 (0, 0))
  below : Below lo w W
  size : lo ≤ W.heap.size
theorem PutAt.drewN {lo root g : Nat} {v : Nat → Int → Int} {e : Ent} {m : Nat → Int → Option Nat} {w W : World} {k b : Nat} (h : PutAt lo root g v e m w W k b) (n : Nat) : PutAt lo root g v e m w (W.drewN n) k b :=
  ⟨⟨h.trie.node, h.trie.inj, h.trie.zero, h.trie.shut⟩, h.root, h.at', h.box, belowDrewN h.below n, h.size⟩
theorem PutAt.step {lo root g : Nat} {v : Nat → Int → Int} {e : Ent} {m : Nat → Int → Option Nat} {w W : World} {k b nb : Nat} (h : PutAt lo root g v e m w W k b) (hn : m (k + 1) (e.1 / sizeF ((k + 1 : Nat) : Int)) = some nb) : PutAt lo root g v e m w W (k + 1) nb :=
  ⟨h.trie, h.root, hn, h.box, h.below, h.size⟩
theorem PutAt.grow {lo root g : Nat} {v : Nat → Int → Int} {e : Ent} {m : Nat → Int → Option Nat} {w W : World} {k b : Nat} (h : PutAt lo root g v e m w W k b) (hk : k < 8) {c : Int} (hc : bitI e.1 k = c) (hn : m (k + 1) (2 * (e.1 / sizeF (k : Int)) + c) = none) :
    PutAt lo root g v e (updM m (k + 1) (2 * (e.1 / sizeF (k : Int)) + c) W.heap.size) w ((W.alloc (.cells #[.int .i64 0, .pointer none, .pointer none] 113)).setCell ⟨b, 1 + c.toNat, none⟩ (.pointer (some ⟨W.heap.size, 0, none⟩))) (k + 1) W.heap.size := by
  have hc01 : c = 0 ∨ c = 1 := by rw [← hc]; exact bitI_01 _ _
  have hblo := (h.trie.node _ _ _ h.at').1
  have hgb : g ≠ b := fun e => h.trie.noteq h.box _ _ (e ▸ h.at')
  have hgl := (Array.getElem?_eq_some_iff.1 h.box).1
  refine ⟨h.trie.grow h.at' hc01 hn h.size, ?_, ?_, ?_, ?_, ?_⟩
  · unfold updM; rw [if_neg (by omega)]; exact h.root
  · unfold updM
    rw [show ((k + 1 : Nat) : Int) = (k : Int) + 1 by omega, bit_step e.1 k hk, hc, if_pos ⟨rfl, rfl⟩]
  · rw [Below.heap_setCell _ _ _ _ (by simpa using hgb), Below.heap_alloc W _ g hgl, h.box]
  · refine Below.setCell (Below.alloc h.below (by have := h.size; omega) _) ?_ _
    simpa using hblo
  · have := h.size; simp [World.setCell]; omega

theorem new_at {W : World} {b i : Nat} {x : Value} {o : Obj} (h : W.cell? ⟨b, i, none⟩ = some x) (hf : W.frozen? ⟨b, i, none⟩ = false) :
    (W.alloc o).cell? ⟨b, i, none⟩ = some x ∧ (W.alloc o).frozen? ⟨b, i, none⟩ = false ∧ ∀ u, ((W.alloc o).setCell ⟨b, i, none⟩ u).cell? ⟨b, i, none⟩ = some u := by
  have hb : b < W.heap.size := by
    by_cases hlt : b < W.heap.size
    · exact hlt
    · unfold World.cell? at h; rw [Array.getElem?_eq_none (by simp; omega)] at h; simp at h
  have h1 : (W.alloc o).cell? ⟨b, i, none⟩ = some x := (World.cell?_alloc_past _ _ _ hb).trans h
  exact ⟨h1, (World.frozen?_alloc_past _ _ _ hb).trans hf, fun u => World.cell?_setCell_same _ _ _ h1⟩
set_option maxRecDepth 100000 in
set_option maxHeartbeats 4000000 in
theorem put_any (root lo : Nat) (m : Nat → Int → Option Nat) (v : Nat → Int → Int) (e : Ent) (K : Nat) (hK : e.2.1 = (K : Int)) (hK8 : K ≤ 8) (hx0 : 0 ≤ e.1) (hx1 : e.1 ≤ 255) (w : World) (hT : IsTrie w lo m v) (hr : m 0 0 = some root) (hlo : lo ≤ w.heap.size) :
    Calls Tryd.prog 71 #[.pointer (some ⟨root, 0, none⟩), entV e] w fun r w' => r = .returned (.tuple #[]) ∧ (∃ m', IsTrie w' lo m' (updV v e) ∧ m' 0 0 = some root) ∧ Below lo w w' ∧ w.heap.size ≤ w'.heap.size := by
  obtain ⟨x, bt, vi⟩ := e
  unfold entV
  dsimp only at hK hx0 hx1 ⊢
  subst hK
  have hP : PutAt lo root w.heap.size v (x, (K : Int), vi) m w (w.alloc (.cells #[.int .i64 x, .int .i64 (K : Int), .int .i64 vi] 35)) 0 root :=
    ⟨hT.below (Below.alloc (Below.refl _ _) (Nat.le_refl _) _), hr, by rw [size_zero x hx0 hx1]; exact hr, heap_alloc_new w _, Below.alloc (Below.refl _ _) hlo _, by simp; omega⟩
  obtain ⟨g, hg⟩ : ∃ g, w.heap.size = g := ⟨_, rfl⟩
  rw [hg] at hP
  have HP := Lib.hid hP
  have HG := Lib.hid hg
  clear hP hT hr
  go_enter Tryd.func71, Tryd.ntmps71
  go_wp2_with fail
  go_loopg [0, 9] K (fun gk s0 s9 wr => ∃ (k b : Nat) (m : Nat → Int → Option Nat), s9 = .int .i64 (k : Int) ∧ k + gk = K ∧ s0 = .pointer (some ⟨b, 0, none⟩) ∧ Hid (PutAt lo root g v (x, (K : Int), vi) m w wr k b) ∧ w.heap.size ≤ wr.heap.size)
  case atStart => exact ⟨0, root, m, rfl, by omega, rfl, HP, by simp⟩
  case round =>
    obtain ⟨k, b, m, rfl, hk, rfl, hP, hsz⟩ := hrel
    obtain ⟨hgl, g0, g1, g2, _, _, _⟩ := node_cells hP.out.box
    by_cases hkK : k = K
    · subst hkK
      have hdn : decide ((k : Int) < (k : Int)) = false := by simp
      obtain ⟨hblo, hnode⟩ := hP.out.trie.node _ _ _ hP.out.at'
      obtain ⟨hbl, n0, n1, n2, nf0, nf1, nf2⟩ := node_cells hnode
      clear n1 n2 hnode
      go_wp2_with fail
      refine ⟨rfl, _, results_none rfl _ _ _, ?_⟩
      refine ⟨rfl, ⟨m, ?_, hP.out.root⟩, Below.setCell hP.out.below ?_ _, ?_⟩
      · exact hP.out.trie.setVia (e := (x, (k : Int), vi)) rfl hP.out.at'
      · exact (hP.out.trie.node _ _ _ hP.out.at').1
      · simp [World.setCell]; omega
    · have hkl : (k : Int) < (K : Int) := by omega
      have hk7 : k < 8 := by omega
      obtain ⟨hblo, hnode⟩ := hP.out.trie.node _ _ _ hP.out.at'
      have hb0 := hP.out.below
      have h01 := bitI_01 x k
      have hst := bit_step x k hk7
      have hbit : ∀ W, Calls Tryd.prog 72 #[.int .i64 x, .int .i64 (k : Int)] W fun e w' => e = .returned (.int .i64 (bitI x k)) ∧ Drew W w' := fun W => (bitOf_any x k hx0 hx1 hk7 W).mono fun e w' ⟨h1, h2⟩ => ⟨h1, by rw [h2]; exact Drew.refl _⟩
      obtain ⟨B, hB⟩ : ∃ B, bitI x k = B := ⟨_, rfl⟩
      rw [hB] at hbit h01 hst
      have HB := Lib.hid hB
      have HBIT := Lib.hid hbit
      have HST := Lib.hid hst
      clear hbit hB hst hkK
      dsimp only at hnode
      obtain ⟨hbl, n0, n1, n2, nf0, nf1, nf2⟩ := node_cells hnode
      rcases h01 with rfl | rfl
      · cases hm : m (k + 1) (2 * (x / sizeF (k : Int))) with
        | none =>
          have hnn : m (k + 1) (2 * (x / sizeF (k : Int)) + 0) = none := by rw [Int.add_zero]; exact hm
          rw [hm] at n1
          have n1' : wr.cell? ⟨b, 1, none⟩ = some (.pointer none) := n1
          have HM := Lib.hid hnn
          clear n1 hm hnn hnode hb0
          go_wp2_with fail
          go_quiet ((go_at_call 72; (first | refine quietA (HBIT.out _) | refine quietB (HBIT.out _))))
          obtain ⟨q1, q2, q3⟩ := new_at (W := wr.drewN nq) (o := .cells #[.int .i64 0, .pointer none, .pointer none] 113) n1' nf1
          go_wp2_with fail
          go_roundg (gk - 1)
          case measure => omega
          case rel =>
            refine ⟨k + 1, wr.heap.size, _, by go_num, by omega, rfl, Lib.hid ((hP.out.drewN nq).grow hk7 HB.out HM.out), ?_⟩
            simp [World.setCell]; omega
        | some nb =>
          rw [hm] at n1
          have n1' : wr.cell? ⟨b, 1, none⟩ = some (.pointer (some ⟨nb, 0, none⟩)) := n1
          have HM := Lib.hid hm
          clear n1 hm hnode hb0
          go_wp2_with fail
          go_quiet ((go_at_call 72; (first | refine quietA (HBIT.out _) | refine quietB (HBIT.out _))))
          go_wp2_with fail
          go_roundg (gk - 1)
          case measure => omega
          case rel => 
            refine ⟨k + 1, nb, m, by go_num, by omega, rfl, Lib.hid ((hP.out.step ?_).drewN _), by simpa using hsz⟩
            show m (k + 1) (x / sizeF ((k + 1 : Nat) : Int)) = some nb
            rw [show ((k + 1 : Nat) : Int) = (k : Int) + 1 by omega, HST.out, Int.add_zero]; exact HM.out
      · cases hm : m (k + 1) (2 * (x / sizeF (k : Int)) + 1) with
        | none =>
          rw [hm] at n2
          have n2' : wr.cell? ⟨b, 2, none⟩ = some (.pointer none) := n2
          have HM := Lib.hid hm
          clear n2 hm hnode hb0
          go_wp2_with fail
          go_quiet ((go_at_call 72; (first | refine quietA (HBIT.out _) | refine quietB (HBIT.out _))))
          obtain ⟨q1, q2, q3⟩ := new_at (W := wr.drewN nq) (o := .cells #[.int .i64 0, .pointer none, .pointer none] 113) n2' nf2
          go_wp2_with fail
          go_roundg (gk - 1)
          case measure => omega
          case rel =>
            refine ⟨k + 1, wr.heap.size, _, by go_num, by omega, rfl, Lib.hid ((hP.out.drewN nq).grow hk7 HB.out HM.out), ?_⟩
            simp [World.setCell]; omega
        | some nb =>
          rw [hm] at n2
          have n2' : wr.cell? ⟨b, 2, none⟩ = some (.pointer (some ⟨nb, 0, none⟩)) := n2
          have HM := Lib.hid hm
          clear n2 hm hnode hb0
          go_wp2_with fail
          go_quiet ((go_at_call 72; (first | refine quietA (HBIT.out _) | refine quietB (HBIT.out _))))
          go_wp2_with fail
          go_roundg (gk - 1)
          case measure => omega
          case rel => 
            refine ⟨k + 1, nb, m, by go_num, by omega, rfl, Lib.hid ((hP.out.step ?_).drewN _), by simpa using hsz⟩
            show m (k + 1) (x / sizeF ((k + 1 : Nat) : Int)) = some nb
            rw [show ((k + 1 : Nat) : Int) = (k : Int) + 1 by omega, HST.out]; exact HM.out
end Go.Proofs.YtnjkifnlimfhnaaDoor
