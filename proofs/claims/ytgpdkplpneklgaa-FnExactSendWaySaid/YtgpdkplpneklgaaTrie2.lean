/- Tries in memory; a bit of an address; find. -/
import Derived.Test.YtgpdkplpneklgaaTrie
namespace Go.Proofs.Ytgpdkplpneklgaa
open Go.RowKit
set_option linter.unusedVariables false

def ptrV (o : Option Nat) : Value := .pointer (o.map fun b => ⟨b, 0, none⟩)
/-- The nodes of a trie lie in blocks of their own from lo on: the node of k bits p in block m k p, with v k p; its two followers behind it. -/
structure IsTrie (W : World) (lo : Nat) (m : Nat → Int → Option Nat) (v : Nat → Int → Int) : Prop where
  node : ∀ k p b, m k p = some b → lo ≤ b ∧ W.heap[b]? = some (.cells #[.int .i64 (v k p), ptrV (m (k + 1) (2 * p)), ptrV (m (k + 1) (2 * p + 1))] 116 (0, 0))
  inj : ∀ k p k' p' b, m k p = some b → m k' p' = some b → k = k' ∧ p = p'
  zero : ∀ k p, m k p = none → v k p = 0
  shut : ∀ k p c, (c = 0 ∨ c = 1) → m k p = none → m (k + 1) (2 * p + c) = none
theorem IsTrie.below {W W' : World} {lo : Nat} {m : Nat → Int → Option Nat} {v : Nat → Int → Int} (h : IsTrie W lo m v) (hb : Below W.heap.size W W') : IsTrie W' lo m v :=
  ⟨fun k p b hm => ⟨(h.node k p b hm).1, (hb.block b (Array.getElem?_eq_some_iff.1 (h.node k p b hm).2).1).trans (h.node k p b hm).2⟩, h.inj, h.zero, h.shut⟩
theorem node_cells {W : World} {b : Nat} {x y z : Value} {T : TypeId} (h : W.heap[b]? = some (.cells #[x, y, z] T (0, 0))) :
    b < W.heap.size ∧ W.cell? ⟨b, 0, none⟩ = some x ∧ W.cell? ⟨b, 1, none⟩ = some y ∧ W.cell? ⟨b, 2, none⟩ = some z ∧ W.frozen? ⟨b, 0, none⟩ = false ∧ W.frozen? ⟨b, 1, none⟩ = false ∧ W.frozen? ⟨b, 2, none⟩ = false := by
  refine ⟨(Array.getElem?_eq_some_iff.1 h).1, ?_, ?_, ?_, ?_, ?_, ?_⟩ <;> simp [World.cell?, World.frozen?, h]
/-- the bit number k of an address, the most significant one first -/
def bitI (x : Int) (k : Nat) : Int := x / sizeF ((k : Int) + 1) % 2
theorem bit_step (x : Int) (k : Nat) (hk : k < 8) : x / sizeF ((k : Int) + 1) = 2 * (x / sizeF (k : Int)) + bitI x k := by
  have e : sizeF (k : Int) = sizeF ((k : Int) + 1) * 2 := by
    unfold sizeF
    rw [show (8 - (k : Int)).toNat = (8 - ((k : Int) + 1)).toNat + 1 by omega, Int.pow_succ]
  have h2 : x / sizeF (k : Int) = x / sizeF ((k : Int) + 1) / 2 := by
    rw [e, Int.ediv_ediv_of_nonneg (by have := sizeF_pos ((k : Int) + 1); omega)]
  rw [h2]
  unfold bitI
  omega
theorem bitI_01 (x : Int) (k : Nat) : bitI x k = 0 ∨ bitI x k = 1 := by unfold bitI; omega
theorem size_zero (x : Int) (h0 : 0 ≤ x) (h1 : x ≤ 255) : x / sizeF ((0 : Nat) : Int) = 0 := by
  have : sizeF ((0 : Nat) : Int) = 256 := by decide
  rw [this]; omega

theorem bits_all : ∀ n : Nat, n < 256 → bits BinOp.and IntKind.i64 ((n : Int) / 128) 1 = bitI (n : Int) 0 ∧ bits BinOp.and IntKind.i64 ((n : Int) / 64) 1 = bitI (n : Int) 1 ∧ bits BinOp.and IntKind.i64 ((n : Int) / 32) 1 = bitI (n : Int) 2 ∧ bits BinOp.and IntKind.i64 ((n : Int) / 16) 1 = bitI (n : Int) 3 ∧ bits BinOp.and IntKind.i64 ((n : Int) / 8) 1 = bitI (n : Int) 4 ∧ bits BinOp.and IntKind.i64 ((n : Int) / 4) 1 = bitI (n : Int) 5 ∧ bits BinOp.and IntKind.i64 ((n : Int) / 2) 1 = bitI (n : Int) 6 ∧ bits BinOp.and IntKind.i64 (n : Int) 1 = bitI (n : Int) 7 := by decide +kernel
theorem bitOf_any (x : Int) (k : Nat) (h0 : 0 ≤ x) (h1 : x ≤ 255) (hk : k < 8) (w : World) :
    Calls Try.prog 80 #[.int .i64 x, .int .i64 (k : Int)] w fun e w' => e = .returned (.int .i64 (bitI x k)) ∧ w' = w := by
  obtain ⟨n, rfl⟩ : ∃ n : Nat, x = (n : Int) := ⟨x.toNat, by omega⟩
  have hk8 : k = 0 ∨ k = 1 ∨ k = 2 ∨ k = 3 ∨ k = 4 ∨ k = 5 ∨ k = 6 ∨ k = 7 := by omega
  obtain ⟨q0, q1, q2, q3, q4, q5, q6, q7⟩ := bits_all n (by omega)
  rcases hk8 with rfl | rfl | rfl | rfl | rfl | rfl | rfl | rfl
  · clear q1 q2 q3 q4 q5 q6 q7
    have Q := Lib.hid q0
    clear q0
    go_enter Try.func80, Try.ntmps80
    go_wp2_with fail
    go_ret
    exact ⟨by rw [← Q.out]; rfl, rfl⟩
  · clear q0 q2 q3 q4 q5 q6 q7
    have Q := Lib.hid q1
    clear q1
    go_enter Try.func80, Try.ntmps80
    go_wp2_with fail
    go_ret
    exact ⟨by rw [← Q.out]; rfl, rfl⟩
  · clear q0 q1 q3 q4 q5 q6 q7
    have Q := Lib.hid q2
    clear q2
    go_enter Try.func80, Try.ntmps80
    go_wp2_with fail
    go_ret
    exact ⟨by rw [← Q.out]; rfl, rfl⟩
  · clear q0 q1 q2 q4 q5 q6 q7
    have Q := Lib.hid q3
    clear q3
    go_enter Try.func80, Try.ntmps80
    go_wp2_with fail
    go_ret
    exact ⟨by rw [← Q.out]; rfl, rfl⟩
  · clear q0 q1 q2 q3 q5 q6 q7
    have Q := Lib.hid q4
    clear q4
    go_enter Try.func80, Try.ntmps80
    go_wp2_with fail
    go_ret
    exact ⟨by rw [← Q.out]; rfl, rfl⟩
  · clear q0 q1 q2 q3 q4 q6 q7
    have Q := Lib.hid q5
    clear q5
    go_enter Try.func80, Try.ntmps80
    go_wp2_with fail
    go_ret
    exact ⟨by rw [← Q.out]; rfl, rfl⟩
  · clear q0 q1 q2 q3 q4 q5 q7
    have Q := Lib.hid q6
    clear q6
    go_enter Try.func80, Try.ntmps80
    go_wp2_with fail
    go_ret
    exact ⟨by rw [← Q.out]; rfl, rfl⟩
  · clear q0 q1 q2 q3 q4 q5 q6
    have Q := Lib.hid q7
    clear q7
    go_enter Try.func80, Try.ntmps80
    go_wp2_with fail
    go_ret
    exact ⟨by rw [← Q.out]; rfl, rfl⟩
end Go.Proofs.Ytgpdkplpneklgaa
