/- (*impl.trie).find. -/
import Derived.Test.YtgpdkplpneklgaaTrie2
namespace Go.Proofs.Ytgpdkplpneklgaa
open Go.RowKit
set_option linter.unusedVariables false

theorem IsTrie.none_on {W : World} {lo : Nat} {m : Nat → Int → Option Nat} {v : Nat → Int → Int} (h : IsTrie W lo m v) {x : Int} {K : Nat} (hK : m K (x / sizeF (K : Int)) = none) : ∀ k : Nat, K ≤ k → k ≤ 8 → m k (x / sizeF (k : Int)) = none := by
  intro k
  induction k with
  | zero => intro h1 _; obtain rfl : K = 0 := by omega
            exact hK
  | succ k ih =>
    intro h1 h2
    by_cases e : K = k + 1
    · rw [← e]; exact hK
    · have := h.shut k _ (bitI x k) (bitI_01 x k) (ih (by omega) (by omega))
      rw [show ((k + 1 : Nat) : Int) = (k : Int) + 1 by omega, bit_step x k (by omega)]
      exact this
theorem fV_succ (v : Nat → Int → Int) (x : Int) (k : Nat) : fV v x (k + 1) = if v k (x / sizeF k) ≠ 0 then v k (x / sizeF k) else fV v x k := rfl

set_option maxRecDepth 100000 in
set_option maxHeartbeats 4000000 in
theorem find_any (root lo : Nat) (m : Nat → Int → Option Nat) (v : Nat → Int → Int) (x : Int) (hx0 : 0 ≤ x) (hx1 : x ≤ 255) (w : World) (hT : IsTrie w lo m v) (hr : m 0 0 = some root) :
    Calls Try.prog 61 #[.pointer (some ⟨root, 0, none⟩), .int .i64 x] w fun e w' => e = .returned (.int .i64 (fV v x 9)) ∧ Drew w w' := by
  obtain ⟨R, hR⟩ : ∃ R, fV v x 9 = R := ⟨_, rfl⟩
  rw [hR]
  have HR := Lib.hid hR
  have HT := Lib.hid hT
  have h0 : Hid (Value.pointer (some ⟨root, 0, none⟩) = ptrV (m 0 (x / sizeF ((0 : Nat) : Int)))) := Lib.hid (by rw [size_zero x hx0 hx1, hr]; rfl)
  clear hR hT hr
  go_enter Try.func61, Try.ntmps61
  go_wp2_with fail
  go_loopg [0, 5, 6] 8 (fun g s0 s5 s6 wr => ∃ (k q : Nat) (y : Int), s6 = .int .i64 (k : Int) ∧ k + g = 8 ∧ Hid (s0 = ptrV (m k (x / sizeF (k : Int)))) ∧ s5 = .int .i64 y ∧ Hid (y = fV v x k) ∧ wr = w.drewN q)
  case atStart => exact ⟨0, 0, 0, rfl, rfl, h0, rfl, Lib.hid rfl, rfl⟩
  case round =>
    obtain ⟨k, q, y, rfl, hk, hs0, rfl, hy, rfl⟩ := hrel
    cases hm : m k (x / sizeF (k : Int)) with
    | none =>
      have e := hs0.out
      rw [hm] at e
      subst e
      have hfin : y = R := by
        rw [hy.out, ← HR.out]
        exact (fV_cut 9 (by omega) (fun k' h1 h2 => HT.out.zero _ _ (HT.out.none_on hm k' h1 (by omega)))).symm
      subst hfin
      unfold ptrV
      go_wp2_with fail
      go_ret
      exact ⟨rfl, q, rfl⟩
    | some b =>
      have e := hs0.out
      rw [hm] at e
      subst e
      obtain ⟨hlo, hnode⟩ := HT.out.node _ _ _ hm
      obtain ⟨V, hV⟩ : ∃ V, v k (x / sizeF (k : Int)) = V := ⟨_, rfl⟩
      have hsucc := fV_succ v x k
      rw [hV, ← hy.out] at hsucc
      rw [hV] at hnode
      obtain ⟨hbl, n0, n1, n2, _, _, _⟩ := node_cells hnode
      have hst : k < 8 → (bitI x k = 0 → m (k + 1) (2 * (x / sizeF (k : Int))) = m (k + 1) (x / sizeF ((k + 1 : Nat) : Int))) ∧ (bitI x k = 1 → m (k + 1) (2 * (x / sizeF (k : Int)) + 1) = m (k + 1) (x / sizeF ((k + 1 : Nat) : Int))) := fun hk8 => by
        have hb := bit_step x k hk8
        rw [show ((k + 1 : Nat) : Int) = (k : Int) + 1 by omega, hb]
        exact ⟨fun h => by rw [h, Int.add_zero], fun h => by rw [h]⟩
      have h01 := bitI_01 x k
      have HST := Lib.hid hst
      have HK := Lib.hid hk
      obtain ⟨y', hy'⟩ : ∃ y', fV v x (k + 1) = y' := ⟨_, rfl⟩
      rw [hy'] at hsucc
      have HY' := Lib.hid hy'
      have hend : k = 8 → y' = R := fun h8 => by rw [← HY'.out, ← HR.out, h8]
      have HEND := Lib.hid hend
      obtain ⟨z1, hz1⟩ : ∃ z, ptrV (m (k + 1) (2 * (x / sizeF (k : Int)))) = z := ⟨_, rfl⟩
      obtain ⟨z2, hz2⟩ : ∃ z, ptrV (m (k + 1) (2 * (x / sizeF (k : Int)) + 1)) = z := ⟨_, rfl⟩
      rw [hz1] at n1
      rw [hz2] at n2
      have hz1' : ∃ o, z1 = .pointer o := ⟨_, hz1.symm⟩
      have hz2' : ∃ o, z2 = .pointer o := ⟨_, hz2.symm⟩
      obtain ⟨o1, ho1⟩ := hz1'
      obtain ⟨o2, ho2⟩ := hz2'
      have HZ1 := Lib.hid hz1
      have HZ2 := Lib.hid hz2
      clear hst hk hy' hend hm hnode hz1 hz2 hV hs0
      subst ho1
      subst ho2
      have hk8 : k ≤ 8 := by have := HK.out; omega
      unfold ptrV
      rw [Option.map_some]
      by_cases hV0 : V = 0
      · subst hV0
        rw [if_neg (by simp)] at hsucc
        subst hsucc
        by_cases h8 : k = 8
        · subst h8
          have e := HEND.out rfl
          subst e
          go_wp2_with fail
          go_ret
          exact ⟨rfl, q, rfl⟩
        · have hk7 : k < 8 := by omega
          have h8b : ((k : Int) == 8) = false := by simp; omega
          have k0 : (0 : Int) ≤ (k : Int) := by omega
          have hbit : ∀ W, Calls Try.prog 80 #[.int .i64 x, .int .i64 (k : Int)] W fun e w' => e = .returned (.int .i64 (bitI x k)) ∧ Drew W w' := fun W => (bitOf_any x k hx0 hx1 hk7 W).mono fun e w' ⟨h1, h2⟩ => ⟨h1, by rw [h2]; exact Drew.refl _⟩
          obtain ⟨B, hB⟩ : ∃ B, bitI x k = B := ⟨_, rfl⟩
          rw [hB] at hbit h01
          have HB := Lib.hid hB
          have HBIT := Lib.hid hbit
          clear hbit hB h8
          rcases h01 with rfl | rfl
          · go_wp2_with fail
            go_quiet ((go_at_call 80; (first | refine quietA (HBIT.out _) | refine quietB (HBIT.out _))))
            go_wp2_with fail
            go_roundg (gk - 1)
            case measure => have := HK.out; omega
            case rel => exact ⟨k + 1, _, _, by go_num, by have := HK.out; omega, Lib.hid (by rw [← HZ1.out, (HST.out hk7).1 HB.out]), rfl, Lib.hid HY'.out.symm, rfl⟩
          · go_wp2_with fail
            go_quiet ((go_at_call 80; (first | refine quietA (HBIT.out _) | refine quietB (HBIT.out _))))
            go_wp2_with fail
            go_roundg (gk - 1)
            case measure => have := HK.out; omega
            case rel => exact ⟨k + 1, _, _, by go_num, by have := HK.out; omega, Lib.hid (by rw [← HZ2.out, (HST.out hk7).2 HB.out]), rfl, Lib.hid HY'.out.symm, rfl⟩
      · rw [if_pos hV0] at hsucc
        subst hsucc
        have hVb : (y' != 0) = true := by simp [hV0]
        clear hV0
        by_cases h8 : k = 8
        · subst h8
          have e := HEND.out rfl
          subst e
          go_wp2_with fail
          go_ret
          exact ⟨rfl, q, rfl⟩
        · have hk7 : k < 8 := by omega
          have h8b : ((k : Int) == 8) = false := by simp; omega
          have k0 : (0 : Int) ≤ (k : Int) := by omega
          have hbit : ∀ W, Calls Try.prog 80 #[.int .i64 x, .int .i64 (k : Int)] W fun e w' => e = .returned (.int .i64 (bitI x k)) ∧ Drew W w' := fun W => (bitOf_any x k hx0 hx1 hk7 W).mono fun e w' ⟨h1, h2⟩ => ⟨h1, by rw [h2]; exact Drew.refl _⟩
          obtain ⟨B, hB⟩ : ∃ B, bitI x k = B := ⟨_, rfl⟩
          rw [hB] at hbit h01
          have HB := Lib.hid hB
          have HBIT := Lib.hid hbit
          clear hbit hB h8
          rcases h01 with rfl | rfl
          · go_wp2_with fail
            go_quiet ((go_at_call 80; (first | refine quietA (HBIT.out _) | refine quietB (HBIT.out _))))
            go_wp2_with fail
            go_roundg (gk - 1)
            case measure => have := HK.out; omega
            case rel => exact ⟨k + 1, _, _, by go_num, by have := HK.out; omega, Lib.hid (by rw [← HZ1.out, (HST.out hk7).1 HB.out]), rfl, Lib.hid HY'.out.symm, rfl⟩
          · go_wp2_with fail
            go_quiet ((go_at_call 80; (first | refine quietA (HBIT.out _) | refine quietB (HBIT.out _))))
            go_wp2_with fail
            go_roundg (gk - 1)
            case measure => have := HK.out; omega
            case rel => exact ⟨k + 1, _, _, by go_num, by have := HK.out; omega, Lib.hid (by rw [← HZ2.out, (HST.out hk7).2 HB.out]), rfl, Lib.hid HY'.out.symm, rfl⟩
end Go.Proofs.Ytgpdkplpneklgaa
