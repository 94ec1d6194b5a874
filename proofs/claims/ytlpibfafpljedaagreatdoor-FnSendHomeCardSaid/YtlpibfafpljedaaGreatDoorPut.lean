/- (*impl.trie).put. impl.trieOf: a table's trie. append of all that a slice holds, be it nil or not. -/
import Derived.Test.YtlpibfafpljedaaGreatDoorTrie
import Derived.OwnWalk
import Derived.Maps.AppendAt
import Derived.Deep.RegionHeld3
import Derived.Deep.DeepCutAuto
import Derived.Laws.EntriesVeiled
import Derived.Deep.LoopGhost
namespace Go.Proofs.YtlpibfafpljedaaGreatDoor
open Go.RowKit
set_option linter.unusedVariables false

theorem IsTrie.noteq {W : World} {lo : Nat} {m : Nat → Int → Option Nat} {v : Nat → Int → Int} (h : IsTrie W lo m v) {g : Nat} {c : Array Value} (hg : W.heap[g]? = some (.cells c 45 (0, 0))) : ∀ k p, m k p ≠ some g := by
  intro k p hm
  have := (h.node k p g hm).2
  rw [hg] at this
  simp at this
/-- what a put leaves behind itself at each round -/
structure PutAt (lo root g : Nat) (v : Nat → Int → Int) (e : Ent) (m : Nat → Int → Option Nat) (w W : World) (k b : Nat) : Prop where
  trie : IsTrie W lo m v
  root : m 0 0 = some root
  at' : m k (e.1 / sizeF (k : Int)) = some b
  box : W.heap[g]? = some (.cells #[.int .i64 e.1, .int .i64 e.2.1, .int .i64 e.2.2] 45 (0, 0))
  below : Below lo w W
  size : lo ≤ W.heap.size
theorem PutAt.drewN {lo root g : Nat} {v : Nat → Int → Int} {e : Ent} {m : Nat → Int → Option Nat} {w W : World} {k b : Nat} (h : PutAt lo root g v e m w W k b) (n : Nat) : PutAt lo root g v e m w (W.drewN n) k b :=
  ⟨⟨h.trie.node, h.trie.inj, h.trie.zero, h.trie.shut⟩, h.root, h.at', h.box, belowDrewN h.below n, h.size⟩
theorem PutAt.step {lo root g : Nat} {v : Nat → Int → Int} {e : Ent} {m : Nat → Int → Option Nat} {w W : World} {k b nb : Nat} (h : PutAt lo root g v e m w W k b) (hn : m (k + 1) (e.1 / sizeF ((k + 1 : Nat) : Int)) = some nb) : PutAt lo root g v e m w W (k + 1) nb :=
  ⟨h.trie, h.root, hn, h.box, h.below, h.size⟩
theorem PutAt.grow {lo root g : Nat} {v : Nat → Int → Int} {e : Ent} {m : Nat → Int → Option Nat} {w W : World} {k b : Nat} (h : PutAt lo root g v e m w W k b) (hk : k < 8) {c : Int} (hc : bitI e.1 k = c) (hn : m (k + 1) (2 * (e.1 / sizeF (k : Int)) + c) = none) :
    PutAt lo root g v e (updM m (k + 1) (2 * (e.1 / sizeF (k : Int)) + c) W.heap.size) w ((W.alloc (.cells #[.int .i64 0, .pointer none, .pointer none] 109)).setCell ⟨b, 1 + c.toNat, none⟩ (.pointer (some ⟨W.heap.size, 0, none⟩))) (k + 1) W.heap.size := by
  have hc01 : c = 0 ∨ c = 1 := by rw [← hc]; exact bitI_01 _ _
  have hblo := (h.trie.node _ _ _ h.at').1
  have hgb : g ≠ b := fun e => h.trie.noteq h.box _ _ (e ▸ h.at')
  have hgl := (Array.getElem?_eq_some_iff.1 h.box).1
  refine ⟨h.trie.grow h.at' hc01 hn h.size, ?_, ?_, ?_, ?_, ?_⟩
  · unfold updM; rw [if_neg (by omega)]; exact h.root
  · unfold updM
    rw [show ((k + 1 : Nat) : Int) = (k : Int) + 1 by omega, bit_step e.1 k hk, hc, if_pos ⟨rfl, rfl⟩]
  · rw [Below.heap_setCell _ _ _ _ (by simpa using hgb), Below.heap_alloc W _ g hgl, h.box]
  · refine Below.setCell (Below.alloc h.below (by have := h.size; omega) _) ?_ _
    simpa using hblo
  · have := h.size; simp [World.setCell]; omega

theorem new_at {W : World} {b i : Nat} {x : Value} {o : Obj} (h : W.cell? ⟨b, i, none⟩ = some x) (hf : W.frozen? ⟨b, i, none⟩ = false) :
    (W.alloc o).cell? ⟨b, i, none⟩ = some x ∧ (W.alloc o).frozen? ⟨b, i, none⟩ = false ∧ ∀ u, ((W.alloc o).setCell ⟨b, i, none⟩ u).cell? ⟨b, i, none⟩ = some u := by
  have hb : b < W.heap.size := by
    by_cases hlt : b < W.heap.size
    · exact hlt
    · unfold World.cell? at h; rw [Array.getElem?_eq_none (by simp; omega)] at h; simp at h
  have h1 : (W.alloc o).cell? ⟨b, i, none⟩ = some x := (World.cell?_alloc_past _ _ _ hb).trans h
  exact ⟨h1, (World.frozen?_alloc_past _ _ _ hb).trans hf, fun u => World.cell?_setCell_same _ _ _ h1⟩
set_option maxRecDepth 100000 in
set_option maxHeartbeats 4000000 in
theorem put_any (root lo : Nat) (m : Nat → Int → Option Nat) (v : Nat → Int → Int) (e : Ent) (K : Nat) (hK : e.2.1 = (K : Int)) (hK8 : K ≤ 8) (hx0 : 0 ≤ e.1) (hx1 : e.1 ≤ 255) (w : World) (hT : IsTrie w lo m v) (hr : m 0 0 = some root) (hlo : lo ≤ w.heap.size) :
    Calls Tryz.prog 68 #[.pointer (some ⟨root, 0, none⟩), entV e] w fun r w' => r = .returned (.tuple #[]) ∧ (∃ m', IsTrie w' lo m' (updV v e) ∧ m' 0 0 = some root) ∧ Below lo w w' ∧ w.heap.size ≤ w'.heap.size := by
  obtain ⟨x, bt, vi⟩ := e
  unfold entV
  dsimp only at hK hx0 hx1 ⊢
  subst hK
  have hP : PutAt lo root w.heap.size v (x, (K : Int), vi) m w (w.alloc (.cells #[.int .i64 x, .int .i64 (K : Int), .int .i64 vi] 45)) 0 root :=
    ⟨hT.below (Below.alloc (Below.refl _ _) (Nat.le_refl _) _), hr, by rw [size_zero x hx0 hx1]; exact hr, heap_alloc_new w _, Below.alloc (Below.refl _ _) hlo _, by simp; omega⟩
  obtain ⟨g, hg⟩ : ∃ g, w.heap.size = g := ⟨_, rfl⟩
  rw [hg] at hP
  have HP := Lib.hid hP
  have HG := Lib.hid hg
  clear hP hT hr
  go_enter Tryz.func68, Tryz.ntmps68
  go_wp2_with fail
  go_loopg [0, 9] K (fun gk s0 s9 wr => ∃ (k b : Nat) (m : Nat → Int → Option Nat), s9 = .int .i64 (k : Int) ∧ k + gk = K ∧ s0 = .pointer (some ⟨b, 0, none⟩) ∧ Hid (PutAt lo root g v (x, (K : Int), vi) m w wr k b) ∧ w.heap.size ≤ wr.heap.size)
  case atStart => exact ⟨0, root, m, rfl, by omega, rfl, HP, by simp⟩
  case round =>
    obtain ⟨k, b, m, rfl, hk, rfl, hP, hsz⟩ := hrel
    obtain ⟨hgl, g0, g1, g2, _, _, _⟩ := node_cells hP.out.box
    by_cases hkK : k = K
    · subst hkK
      have hdn : decide ((k : Int) < (k : Int)) = false := by simp
      obtain ⟨hblo, hnode⟩ := hP.out.trie.node _ _ _ hP.out.at'
      obtain ⟨hbl, n0, n1, n2, nf0, nf1, nf2⟩ := node_cells hnode
      clear n1 n2 hnode
      go_wp2_with fail
      refine ⟨rfl, _, results_none rfl _ _ _, ?_⟩
      refine ⟨rfl, ⟨m, ?_, hP.out.root⟩, Below.setCell hP.out.below ?_ _, ?_⟩
      · exact hP.out.trie.setVia (e := (x, (k : Int), vi)) rfl hP.out.at'
      · exact (hP.out.trie.node _ _ _ hP.out.at').1
      · simp [World.setCell]; omega
    · have hkl : (k : Int) < (K : Int) := by omega
      have hk7 : k < 8 := by omega
      obtain ⟨hblo, hnode⟩ := hP.out.trie.node _ _ _ hP.out.at'
      have hb0 := hP.out.below
      have h01 := bitI_01 x k
      have hst := bit_step x k hk7
      have hbit : ∀ W, Calls Tryz.prog 69 #[.int .i64 x, .int .i64 (k : Int)] W fun e w' => e = .returned (.int .i64 (bitI x k)) ∧ Drew W w' := fun W => (bitOf_any x k hx0 hx1 hk7 W).mono fun e w' ⟨h1, h2⟩ => ⟨h1, by rw [h2]; exact Drew.refl _⟩
      obtain ⟨B, hB⟩ : ∃ B, bitI x k = B := ⟨_, rfl⟩
      rw [hB] at hbit h01 hst
      have HB := Lib.hid hB
      have HBIT := Lib.hid hbit
      have HST := Lib.hid hst
      clear hbit hB hst hkK
      dsimp only at hnode
      obtain ⟨hbl, n0, n1, n2, nf0, nf1, nf2⟩ := node_cells hnode
      rcases h01 with rfl | rfl
      · cases hm : m (k + 1) (2 * (x / sizeF (k : Int))) with
        | none =>
          have hnn : m (k + 1) (2 * (x / sizeF (k : Int)) + 0) = none := by rw [Int.add_zero]; exact hm
          rw [hm] at n1
          have n1' : wr.cell? ⟨b, 1, none⟩ = some (.pointer none) := n1
          have HM := Lib.hid hnn
          clear n1 hm hnn hnode hb0
          go_wp2_with fail
          go_quiet ((go_at_call 69; (first | refine quietA (HBIT.out _) | refine quietB (HBIT.out _))))
          obtain ⟨q1, q2, q3⟩ := new_at (W := wr.drewN nq) (o := .cells #[.int .i64 0, .pointer none, .pointer none] 109) n1' nf1
          go_wp2_with fail
          go_roundg (gk - 1)
          case measure => omega
          case rel =>
            refine ⟨k + 1, wr.heap.size, _, by go_num, by omega, rfl, Lib.hid ((hP.out.drewN nq).grow hk7 HB.out HM.out), ?_⟩
            simp [World.setCell]; omega
        | some nb =>
          rw [hm] at n1
          have n1' : wr.cell? ⟨b, 1, none⟩ = some (.pointer (some ⟨nb, 0, none⟩)) := n1
          have HM := Lib.hid hm
          clear n1 hm hnode hb0
          go_wp2_with fail
          go_quiet ((go_at_call 69; (first | refine quietA (HBIT.out _) | refine quietB (HBIT.out _))))
          go_wp2_with fail
          go_roundg (gk - 1)
          case measure => omega
          case rel => 
            refine ⟨k + 1, nb, m, by go_num, by omega, rfl, Lib.hid ((hP.out.step ?_).drewN _), by simpa using hsz⟩
            show m (k + 1) (x / sizeF ((k + 1 : Nat) : Int)) = some nb
            rw [show ((k + 1 : Nat) : Int) = (k : Int) + 1 by omega, HST.out, Int.add_zero]; exact HM.out
      · cases hm : m (k + 1) (2 * (x / sizeF (k : Int)) + 1) with
        | none =>
          rw [hm] at n2
          have n2' : wr.cell? ⟨b, 2, none⟩ = some (.pointer none) := n2
          have HM := Lib.hid hm
          clear n2 hm hnode hb0
          go_wp2_with fail
          go_quiet ((go_at_call 69; (first | refine quietA (HBIT.out _) | refine quietB (HBIT.out _))))
          obtain ⟨q1, q2, q3⟩ := new_at (W := wr.drewN nq) (o := .cells #[.int .i64 0, .pointer none, .pointer none] 109) n2' nf2
          go_wp2_with fail
          go_roundg (gk - 1)
          case measure => omega
          case rel =>
            refine ⟨k + 1, wr.heap.size, _, by go_num, by omega, rfl, Lib.hid ((hP.out.drewN nq).grow hk7 HB.out HM.out), ?_⟩
            simp [World.setCell]; omega
        | some nb =>
          rw [hm] at n2
          have n2' : wr.cell? ⟨b, 2, none⟩ = some (.pointer (some ⟨nb, 0, none⟩)) := n2
          have HM := Lib.hid hm
          clear n2 hm hnode hb0
          go_wp2_with fail
          go_quiet ((go_at_call 69; (first | refine quietA (HBIT.out _) | refine quietB (HBIT.out _))))
          go_wp2_with fail
          go_roundg (gk - 1)
          case measure => omega
          case rel => 
            refine ⟨k + 1, nb, m, by go_num, by omega, rfl, Lib.hid ((hP.out.step ?_).drewN _), by simpa using hsz⟩
            show m (k + 1) (x / sizeF ((k + 1 : Nat) : Int)) = some nb
            rw [show ((k + 1 : Nat) : Int) = (k : Int) + 1 by omega, HST.out]; exact HM.out
end Go.Proofs.YtlpibfafpljedaaGreatDoor

namespace Go.Proofs.YtlpibfafpljedaaGreatDoor
open Go.RowKit
set_option linter.unusedVariables false

def m0 (r : Nat) : Nat → Int → Option Nat := fun k p => if k = 0 ∧ p = 0 then some r else none
theorem IsTrie.new (w : World) : IsTrie (w.alloc (.cells #[.int .i64 0, .pointer none, .pointer none] 109)) w.heap.size (m0 w.heap.size) (vF []) := by
  refine ⟨fun k p b hm => ?_, fun k p k' p' b h1 h2 => ?_, fun k p _ => rfl, fun k p c hc hm => ?_⟩
  · unfold m0 at hm
    by_cases h : k = 0 ∧ p = 0
    · rw [if_pos h] at hm
      simp only [Option.some.injEq] at hm
      subst hm
      refine ⟨Nat.le_refl _, ?_⟩
      have e : ∀ q, m0 w.heap.size (k + 1) q = none := fun q => by unfold m0; rw [if_neg (by omega)]
      rw [heap_alloc_new, e, e]; rfl
    · rw [if_neg h] at hm; cases hm
  · unfold m0 at h1 h2
    by_cases h : k = 0 ∧ p = 0
    · by_cases h' : k' = 0 ∧ p' = 0
      · exact ⟨h.1.trans h'.1.symm, h.2.trans h'.2.symm⟩
      · rw [if_neg h'] at h2; cases h2
    · rw [if_neg h] at h1; cases h1
  · unfold m0; rw [if_neg (by omega)]
theorem take_snoc {l : List Ent} {k : Nat} (hk : k < l.length) : l.take (k + 1) = l.take k ++ [l.getD k (0, 0, 0)] := by
  rw [List.take_add_one, List.getD_eq_getElem?_getD, List.getElem?_eq_getElem hk]; rfl

set_option maxRecDepth 100000 in
set_option maxHeartbeats 4000000 in
theorem trieOf_any (t : Value) (l : List Ent) (hl : l.length ≤ 12) (hok : ∀ i, i < l.length → entOkF (l.getD i (0, 0, 0)) = true) (w : World) (hE : EntsAt w t l) :
    Calls Tryz.prog 49 #[t] w fun e w' => ∃ (root : Nat) (m : Nat → Int → Option Nat), e = .returned (.pointer (some ⟨root, 0, none⟩)) ∧ IsTrie w' w.heap.size m (vF l) ∧ m 0 0 = some root ∧ root < w'.heap.size ∧ Below w.heap.size w w' := by
  have hT := IsTrie.new w
  obtain ⟨lo, hlo⟩ : ∃ lo, w.heap.size = lo := ⟨_, rfl⟩
  obtain ⟨a, cap, rfl, hc, hm⟩ := hE.form
  obtain ⟨n, hn⟩ : ∃ n, l.length = n := ⟨_, rfl⟩
  rw [hn] at hE hc hl hok ⊢
  rw [hlo] at hT
  have H := Lib.hid hE
  have HN := Lib.hid hn
  have HLO := Lib.hid hlo
  have HOK := Lib.hid hok
  have HT := Lib.hid hT
  clear hE hn hok hT hlo
  go_enter Tryz.func49, Tryz.ntmps49
  go_wp2_with fail
  go_loopg [10] n (fun gk s10 wr => ∃ (k : Nat) (m : Nat → Int → Option Nat), s10 = .int .i64 (k : Int) ∧ k + gk = n ∧ Hid (IsTrie wr lo m (vF (l.take k))) ∧ Hid (m 0 0 = some w.heap.size) ∧ Hid (Below lo w wr) ∧ w.heap.size < wr.heap.size)
  case atStart => exact ⟨0, m0 lo, rfl, by omega, HT, Lib.hid (by rw [HLO.out]; rfl), Lib.hid (Below.alloc (Below.refl _ _) (by rw [HLO.out]; exact Nat.le_refl _) _), by simp⟩
  case round =>
    obtain ⟨k, m, rfl, hk, hT, hr, hB, hsz⟩ := hrel
    by_cases hg : gk = 0
    · subst hg
      obtain rfl : k = n := by omega
      have hdn : decide ((k : Int) < (k : Int)) = false := by simp
      go_wp2_with fail
      go_ret
      refine ⟨w.heap.size, m, rfl, ?_, hr.out, hsz, by rw [HLO.out]; exact hB.out⟩
      have := hT.out
      rw [← HN.out, List.take_length] at this
      rw [HLO.out]; exact this
    · have hkn : k < n := by omega
      have hkI : (k : Int) < (n : Int) := by omega
      have k0 : (0 : Int) ≤ (k : Int) := by omega
      have hgk : 1 ≤ gk := by omega
      obtain ⟨b, off, rfl, hb, c0, c1, c2⟩ := (H.out.below (by rw [HLO.out]; exact hB.out)).get k hkn
      have hok := HOK.out k hkn
      have hsn : vF (l.take (k + 1)) = updV (vF (l.take k)) (l.getD k (0, 0, 0)) := by rw [take_snoc (by rw [HN.out]; exact hkn), vF_upd]
      obtain ⟨ent, hent⟩ : ∃ e, l.getD k (0, 0, 0) = e := ⟨_, rfl⟩
      rw [hent] at c0 c1 c2 hok hsn
      obtain ⟨b0, b8, f0, f255, _⟩ := entOk_parts hok
      obtain ⟨f, bt, vi⟩ := ent
      simp only at c0 c1 c2 b0 b8 f0 f255
      obtain ⟨K, rfl⟩ : ∃ K : Nat, bt = (K : Int) := ⟨bt.toNat, by omega⟩
      have HS := Lib.hid hsn
      have HK := Lib.hid hk
      clear hsn hent hok hk hg
      go_wp2_with (go_at_call 68; refine (put_any w.heap.size lo m _ (f, (K : Int), vi) K rfl (by omega) f0 f255 _ (hT.out.below (by repeat (first | exact Below.refl _ _ | assumption | refine Below.drew ?_ | refine belowDrewN ?_ _ | refine Below.alloc ?_ (by first | exact Nat.le_refl _ | omega | (simp; done) | (simp; omega)) _ | refine Below.setCell ?_ (by first | exact Nat.le_refl _ | omega | (simp; done) | (simp; omega)) _))) hr.out (by rw [← HLO.out]; simp; omega)).mono ?_; rintro e w1 ⟨rfl, ⟨m', hT', hr'⟩, hb1, hs1⟩; have BB := Lib.hid (Below.trans (hB.out.trans (by refine Below.mono (B := wr.heap.size) ?_ (by rw [← HLO.out]; omega); repeat (first | exact Below.refl _ _ | assumption | refine Below.drew ?_ | refine belowDrewN ?_ _ | refine Below.alloc ?_ (by first | exact Nat.le_refl _ | omega | (simp; done) | (simp; omega)) _ | refine Below.setCell ?_ (by first | exact Nat.le_refl _ | omega | (simp; done) | (simp; omega)) _))) hb1); have HT' := Lib.hid hT'; have HR' := Lib.hid hr'; have hs2 : w.heap.size < w1.heap.size := (by simp at hs1; omega); clear hT' hr' hb1)
      go_roundg (gk - 1)
      case measure => omega
      case rel => exact ⟨k + 1, m', by go_num, by have := HK.out; omega, Lib.hid (by rw [HS.out]; exact HT'.out), HR', BB, hs2⟩
end Go.Proofs.YtlpibfafpljedaaGreatDoor

namespace Go.Proofs.YtlpibfafpljedaaGreatDoor
open Go.RowKit
set_option linter.unusedVariables false
theorem heap_lt {w : World} {b : Nat} {o : Obj} (h : w.heap[b]? = some o) : b < w.heap.size := (Array.getElem?_eq_some_iff.1 h).1
theorem owns_belowR {W w1 : World} {B : Nat} {e : TypeId} {size n : Nat} {v : Value} {xs : List Value} (h : W.ownsRow B e size v n xs) (hb : Below W.heap.size W w1) : w1.ownsRow B e size v n xs :=
  h.kept (row := none) ⟨hb.os, hb.tape, hb.output, hb.size, fun k hk _ => hb.block k hk⟩ (by cases h : v.ownBlock <;> simp)
theorem owns_form {w : World} {lo n : Nat} {T : TypeId} {v : Value} {us : List Value} (h : w.ownsRow lo T 1 v n us) : ∃ a cap, v = .slice a n cap ∧ n ≤ cap ∧ cap ≤ 9223372036854775807 := by
  rcases h.2 with ⟨rfl, hn⟩ | ⟨g, cap, cur, rfl, hb, hg, hnc, hcm, hcs, htake⟩
  · exact ⟨none, 0, by rw [hn], by omega, by omega⟩
  · exact ⟨_, cap, rfl, hnc, by unfold maxLen at hcm; exact hcm⟩
variable {P : Program} {w : World}

theorem run_append_owned_noneC (base : Nat) (t ty e : TypeId) (i : TypeInfo) (size : Nat) (ht : P.underlying t = some (.slice e)) (hi : P.info? e = some i)
    (v : Value) (n c : Nat) (xs : List Value) (hown : w.ownsRow base e size v n xs) :
    (Builtin.append_ #[t, t] ty #[v, .slice none 0 c]).run P w = .ok v w := by
  rcases hown.2 with ⟨rfl, rfl⟩ | ⟨g, cap, cur, rfl, _, _, hnc, _⟩
  · simp [Builtin.append_, run_underlying ht, sizeOf, typeInfo, hi, Builtin.lenOf, Builtin.firstCells]
  · simp [Builtin.append_, run_underlying ht, sizeOf, typeInfo, hi, Builtin.lenOf, Builtin.firstCells, hnc, storeCells]
theorem wpList_append_noneC {ops : Array Oper} {rest : List Oper} {o : Oper} {a : Act} {Q : Exit → Act → World → Prop} (hgd : o.guard = none) (s x : Operand) (t : TypeId)
    (ho : o.op = .call { callee := .builtin .append, args := #[s, x], argTypes := #[t, t] })
    (base : Nat) (e : TypeId) (i : TypeInfo) (size : Nat) (ht : P.underlying t = some (.slice e)) (hi : P.info? e = some i)
    (v : Value) (n c : Nat) (xs : List Value) (hs : a.eval s = v) (hown : w.ownsRow base e size v n xs) (hx : a.eval x = .slice none 0 c)
    (h : wpList P ops Q rest (a.put o.dst v) w) : wpList P ops Q (o :: rest) a w := by
  refine wpList_plain hgd fun K hK => ?_
  have hrun := run_append_owned_noneC (P := P) (w := w) base t o.type e i size ht hi v n c xs hown
  unfold Oper.wp
  simp [execOp, ho, resolve, invoke, builtin, hs, hx, hrun, Result.andThen]
  exact hK _ _ h
theorem grownBy_refl (w : World) (row : Option Nat) : w.grownBy w row := ⟨rfl, rfl, rfl, Nat.le_refl _, fun _ _ _ => rfl⟩
/-- all that a slice of elements of one cell holds -/
theorem wpList_append_src {ops : Array Oper} {rest : List Oper} {o : Oper} {a : Act} {Q : Exit → Act → World → Prop} (hgd : o.guard = none) (s x : Operand) (t : TypeId)
    (ho : o.op = .call { callee := .builtin .append, args := #[s, x], argTypes := #[t, t] })
    (base : Nat) (e : TypeId) (i : TypeInfo) (z : Value) (bytes : Nat) (ht : P.underlying t = some (.slice e)) (hi : P.info? e = some i) (hz : i.zero = some z)
    (hsize : i.size = 1) (hby : i.bytes = bytes) (hzs : z.cells.size = 1)
    (v : Value) (n : Nat) (xs : List Value) (hs : a.eval s = v) (hown : w.ownsRow base e 1 v n xs)
    (sv : Value) (m : Nat) (f : Nat → Value) (hx : a.eval x = sv) (hsl : SliceAt w sv m f) (h1 : ∀ j, j < m → (f j).oneCell' = true)
    (h63 : n + m ≤ maxLen) (hbytes : (n + m) * bytes ≤ 140737488355328) (hbase : base ≤ w.heap.size)
    (h : ∀ v' w', w'.ownsRow base e 1 v' (n + m) (xs ++ (List.range m).map f) → w.grownBy w' v.ownBlock → wpList P ops Q rest (a.put o.dst v') w') : wpList P ops Q (o :: rest) a w := by
  obtain ⟨ad, cap, rfl, hc, hm, hh⟩ := hsl
  cases ad with
  | none =>
    have hm0 : m = 0 := by
      rcases hh with hh | ⟨b, off, e, _⟩
      · exact hh
      · cases e
    subst hm0
    refine wpList_append_noneC hgd s x t ho base e i 1 ht hi v n cap xs hs hown hx (h v w ?_ (grownBy_refl _ _))
    simpa using hown
  | some ad =>
    refine wpList_append_own w hgd s x t ho base e i z 1 bytes ht hi hz hsize hby hzs (by omega) v n xs hs hown ad m cap ((List.range m).map f) hx (by simp) ?_ ?_ h63 hbytes hbase (fun v' w' a1 a2 _ => h v' w' a1 a2)
    · intro j u hj
      rcases hh with hh | ⟨b, off, e, hlt, hcell⟩
      · subst hh; simp at hj
      · simp only [Option.some.injEq] at e
        subst e
        have hjm : j < m := by
          rcases Nat.lt_or_ge j m with h | h
          · exact h
          · rw [List.getElem?_eq_none (by simpa using h)] at hj; cases hj
        rw [List.getElem?_map, List.getElem?_range hjm] at hj
        simp at hj
        subst hj
        rw [show (⟨b, off, none⟩ : Addr).add j = ⟨b, off + j, none⟩ from by simp [Addr.add]]
        exact hcell j hjm
    · intro u hu
      obtain ⟨j, hj, rfl⟩ := List.mem_map.1 hu
      exact h1 j (by simpa using hj)
theorem wp_append_src {o : Oper} {a : Act} {K : Act → World → Prop} {Q : Exit → Act → World → Prop} (s x : Operand) (t : TypeId)
    (ho : o.op = .call { callee := .builtin .append, args := #[s, x], argTypes := #[t, t] })
    (base : Nat) (e : TypeId) (i : TypeInfo) (z : Value) (bytes : Nat) (ht : P.underlying t = some (.slice e)) (hi : P.info? e = some i) (hz : i.zero = some z)
    (hsize : i.size = 1) (hby : i.bytes = bytes) (hzs : z.cells.size = 1)
    (v : Value) (n : Nat) (xs : List Value) (hs : a.eval s = v) (hown : w.ownsRow base e 1 v n xs)
    (sv : Value) (m : Nat) (f : Nat → Value) (hx : a.eval x = sv) (hsl : SliceAt w sv m f) (h1 : ∀ j, j < m → (f j).oneCell' = true)
    (h63 : n + m ≤ maxLen) (hbytes : (n + m) * bytes ≤ 140737488355328) (hbase : base ≤ w.heap.size)
    (h : ∀ v' w', w'.ownsRow base e 1 v' (n + m) (xs ++ (List.range m).map f) → w.grownBy w' v.ownBlock → K (a.put o.dst v') w') : Oper.wp P o a w K Q := by
  obtain ⟨ad, cap, rfl, hc, hm, hh⟩ := hsl
  cases ad with
  | none =>
    have hm0 : m = 0 := by
      rcases hh with hh | ⟨b, off, e, _⟩
      · exact hh
      · cases e
    subst hm0
    have hrun := run_append_owned_noneC (P := P) (w := w) base t o.type e i 1 ht hi v n cap xs hown
    unfold Oper.wp
    simp [execOp, ho, resolve, invoke, builtin, hs, hx, hrun, Result.andThen]
    exact h v w (by simpa using hown) (grownBy_refl _ _)
  | some ad =>
    refine wp_append_own w s x t ho base e i z 1 bytes ht hi hz hsize hby hzs (by omega) v n xs hs hown ad m cap ((List.range m).map f) hx (by simp) ?_ ?_ h63 hbytes hbase (fun v' w' a1 a2 _ => h v' w' a1 a2)
    · intro j u hj
      rcases hh with hh | ⟨b, off, e, hlt, hcell⟩
      · subst hh; simp at hj
      · simp only [Option.some.injEq] at e
        subst e
        have hjm : j < m := by
          rcases Nat.lt_or_ge j m with h | h
          · exact h
          · rw [List.getElem?_eq_none (by simpa using h)] at hj; cases hj
        rw [List.getElem?_map, List.getElem?_range hjm] at hj
        simp at hj
        subst hj
        rw [show (⟨b, off, none⟩ : Addr).add j = ⟨b, off + j, none⟩ from by simp [Addr.add]]
        exact hcell j hjm
    · intro u hu
      obtain ⟨j, hj, rfl⟩ := List.mem_map.1 hu
      exact h1 j (by simpa using hj)
/-- .. at a step of a region that draws its order -/
theorem step_append_src {ops : Array Oper} {o : Oper} {a : Act} {K : Act → World → Prop} {Q : Exit → Act → World → Prop} {E : Prop} (hgd : o.guard = none) (s x : Operand) (t : TypeId)
    (ho : o.op = .call { callee := .builtin .append, args := #[s, x], argTypes := #[t, t] })
    (base : Nat) (e : TypeId) (i : TypeInfo) (z : Value) (bytes : Nat) (ht : P.underlying t = some (.slice e)) (hi : P.info? e = some i) (hz : i.zero = some z)
    (hsize : i.size = 1) (hby : i.bytes = bytes) (hzs : z.cells.size = 1)
    (v : Value) (n : Nat) (xs : List Value) (hs : a.eval s = v) (hown : w.ownsRow base e 1 v n xs)
    (sv : Value) (m : Nat) (f : Nat → Value) (hx : a.eval x = sv) (hsl : SliceAt w sv m f) (h1 : ∀ j, j < m → (f j).oneCell' = true)
    (h63 : n + m ≤ maxLen) (hbytes : (n + m) * bytes ≤ 140737488355328) (hbase : base ≤ w.heap.size)
    (h : ∀ v' w', w'.ownsRow base e 1 v' (n + m) (xs ++ (List.range m).map f) → w.grownBy w' v.ownBlock → K (a.put o.dst v') w') : if Region.wanted o (yielded ops a.tmps) = true then Oper.wp P o a w K Q else E := by
  have hw : Region.wanted o (yielded ops a.tmps) = true := by simp [Region.wanted, hgd]
  rw [if_pos hw]
  exact wp_append_src s x t ho base e i z bytes ht hi hz hsize hby hzs v n xs hs hown sv m f hx hsl h1 h63 hbytes hbase h
end Go.Proofs.YtlpibfafpljedaaGreatDoor
