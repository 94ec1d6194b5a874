/- The walk of FnBadRing. -/
import Derived.Test.YtlkchhedlbaomaaRanksLawTree
import Derived.Maps.AppendAt
import Derived.Test.YtlkchhedlbaomaaRanksWays2
namespace Go.Proofs.Ytlkchhedlbaomaa
open Go.RowKit
set_option linter.unusedVariables false

def bothRing (w : World) : World := ((((((((((w.alloc (.cells #[.int .i64 1, .int .i64 2, .int .i64 0] 3)).alloc (.cells #[.int .i64 1, .int .i64 0] 3)).alloc (.cells #[(.slice (some ⟨w.heap.size, 0, none⟩) 3 3), (.slice (some ⟨w.heap.size + 1, 0, none⟩) 2 2)] 27)).alloc (.cells #[.int .i64 2, .int .i64 3, .int .i64 0] 3)).alloc (.cells #[.int .i64 2, .int .i64 0] 3)).alloc (.cells #[(.slice (some ⟨w.heap.size + 3, 0, none⟩) 3 3), (.slice (some ⟨w.heap.size + 4, 0, none⟩) 2 2)] 27)).alloc (.cells #[.int .i64 3, .int .i64 1, .int .i64 0] 3)).alloc (.cells #[.int .i64 3, .int .i64 0] 3)).alloc (.cells #[(.slice (some ⟨w.heap.size + 6, 0, none⟩) 3 3), (.slice (some ⟨w.heap.size + 7, 0, none⟩) 2 2)] 27)).alloc (.cells #[(.slice (some ⟨w.heap.size + 2, 0, none⟩) 2 2), (.slice (some ⟨w.heap.size + 5, 0, none⟩) 2 2), (.slice (some ⟨w.heap.size + 8, 0, none⟩) 2 2)] 26))
/-- three nets of ways, one behind the other, and an empty list of numbers -/
def bothWorld (w : World) : World := ((((((((((bothRing w).alloc (.cells #[.int .i64 1, .int .i64 2, .int .i64 0] 3)).alloc (.cells #[.int .i64 1, .int .i64 0] 3)).alloc (.cells #[(.slice (some ⟨w.heap.size + 10, 0, none⟩) 3 3), (.slice (some ⟨w.heap.size + 11, 0, none⟩) 2 2)] 27)).alloc (.cells #[.int .i64 2, .int .i64 1, .int .i64 0] 3)).alloc (.cells #[.int .i64 2, .int .i64 0] 3)).alloc (.cells #[(.slice (some ⟨w.heap.size + 13, 0, none⟩) 3 3), (.slice (some ⟨w.heap.size + 14, 0, none⟩) 2 2)] 27)).alloc (.cells #[] 27)).alloc (.cells #[(.slice (some ⟨w.heap.size + 12, 0, none⟩) 2 2), (.slice (some ⟨w.heap.size + 15, 0, none⟩) 2 2), (.slice (some ⟨w.heap.size + 16, 0, none⟩) 0 0)] 26))).alloc (.cells #[] 3)
theorem both_lit (w : World) : ∃ W8 : World, W8.heap.size = w.heap.size + 18 ∧ bothWorld w = W8.alloc (.cells #[] 3) ∧ GridAt W8 (.slice (some ⟨w.heap.size + 9, 0, none⟩) 3 3) ringGrid ∧ GridAt W8 (.slice (some ⟨w.heap.size + 17, 0, none⟩) 3 3) twoGrid ∧ Below w.heap.size w W8 := by
  have r1 := ring_lit w
  obtain ⟨W, hW⟩ : ∃ x, x = ringWorld w := ⟨_, rfl⟩
  rw [← hW] at r1
  have r2 := two_lit W
  unfold twoWorld at r2
  rw [r1.2.2] at r2
  refine ⟨_, ?_, by unfold bothWorld; rw [show bothRing w = W from hW.symm], ?_, r2.1.grid, ?_⟩
  · exact r2.2.2
  · exact r1.1.grid.below (r2.2.1.mono (by rw [r1.2.2]; exact Nat.le_refl _))
  · exact r1.2.1.trans (r2.2.1.mono (by omega))

set_option maxRecDepth 100000 in
set_option maxHeartbeats 8000000 in
theorem badRing_walk (a : Option Addr) (len cap : Nat) (zs : List Int) (a2 : Option Addr) (len2 cap2 : Nat) (zs2 : List Int) (w : World) (h : IsRow .u8 w a len cap zs) (h2 : IsRow .u8 w a2 len2 cap2 zs2) :
    Calls Try.prog 16 #[.slice a len cap, .slice a2 len2 cap2] w fun e w' => e = .returned (.bool true) ∧ Below w.heap.size w w' := by
  obtain ⟨hm, hc⟩ := h.bounds
  have hc' := hc
  unfold maxLen at hc'
  obtain ⟨hm2, hc2⟩ := h2.bounds
  have hc2' := hc2
  unfold maxLen at hc2'
  have H := Lib.hid h
  clear h
  obtain ⟨i0, hi, hz0, hz1, hz2⟩ := info_parts info_intR
  go_enter Try.func16, Try.ntmps16
  by_cases hl : 1048576 < len ∨ 1048576 < len2
  · by_cases hl1 : 1048576 < len
    · go_wp2_with fail
      go_ret
      exact ⟨rfl, Below.refl _ _⟩
    · have hl2 : 1048576 < len2 := by omega
      clear hl
      go_wp2_with fail
      go_ret
      exact ⟨rfl, Below.refl _ _⟩
  · have hl1 : ¬ 1048576 < len := by omega
    have hl2 : ¬ 1048576 < len2 := by omega
    clear hl
    go_wp2_with fail
    refine (drawMany_tab _ _ _ zs _ H.out).mono ?_
    rintro e w1 ⟨v, r, rfl, ht, hb⟩
    obtain ⟨va, vc, e', hvc, hvm⟩ := ht.grid.form
    subst e'
    have TB := Lib.hid ht
    have BB := Lib.hid hb
    clear ht hb
    obtain ⟨N, hN⟩ : ∃ N, manyF r = N := ⟨_, rfl⟩
    have himpl := implMany_any _ r w1 TB.out.grid
    have hspec : ∀ W, Below w1.heap.size w1 W → Calls Try.prog 34 #[.slice va r.length vc] W fun e w' => e = .returned (.int .i64 N) ∧ Below W.heap.size W w' := fun W hW => by
      rw [← hN]; exact specMany_any _ r W (TB.out.grid.below hW)
    rw [hN] at himpl
    have HIM := Lib.hid himpl
    have HSP := Lib.hid hspec
    have hne : (N != N) = false := by simp
    clear himpl hspec hN
    go_wp2_with fail
    refine (HIM.out).mono ?_
    rintro e w2 ⟨rfl, hb⟩
    have B1 := Lib.hid hb
    have BB := Lib.hid (BB.out.trans (hb.mono BB.out.size))
    clear hb
    go_wp2_with fail
    refine (HSP.out _ B1.out).mono ?_
    rintro e w3 ⟨rfl, hb⟩
    have BB := Lib.hid (BB.out.trans (hb.mono BB.out.size))
    clear hb B1 HSP HIM TB
    obtain ⟨m, hmm⟩ : ∃ m : Nat, (len2 : Int) % 20 = (m : Int) := ⟨len2 % 20, by omega⟩
    have hm20 : m < 20 := by omega
    have hbw : w.heap.size ≤ w3.heap.size := BB.out.size
    go_wp2_with fail
    show Code.wp _ _ _ _ (bothWorld w3)
    obtain ⟨W8, hs8, hw8, hg1, hg2, hb8⟩ := both_lit w3
    rw [hw8]
    have HG1 := Lib.hid hg1
    have HG2 := Lib.hid hg2
    have HB8 := Lib.hid hb8
    have HS8 := Lib.hid hs8
    clear hw8 hg1 hg2 hb8 hs8
    go_loopg [9, 10] m (fun g s9 s10 wr => ∃ (k oc og : Nat) (l : List Int), s10 = .int .i64 (k : Int) ∧ k + g = m ∧ s9 = .slice (some ⟨og, 0, none⟩) k oc ∧ k ≤ oc ∧ oc ≤ 9223372036854775807 ∧ Hid (l.length = k) ∧ Hid (∀ j, j < k → 1 ≤ l.getD j 0 ∧ l.getD j 0 ≤ 3) ∧
      Hid (OwnInts wr W8.heap.size (.slice (some ⟨og, 0, none⟩) k oc) l) ∧ Hid (Below W8.heap.size W8 wr))
    case atStart => exact ⟨0, 0, _, [], rfl, by omega, rfl, Nat.le_refl _, by omega, Lib.hid rfl, Lib.hid fun j hj => by omega, Lib.hid (by have := World.ownsRow_lit (e := 3) (base := W8.heap.size) (size := 1) W8 #[] 0 (Nat.le_refl _) (by simp [maxLen]) rfl; unfold OwnInts; rw [HS8.out] at this ⊢; exact this), Lib.hid ((Below.refl _ _).alloc (Nat.le_refl _) _)⟩
    case round =>
      obtain ⟨k, oc, og, l, rfl, hk, rfl, hko, hom, HL, HB, HK, HBW⟩ := hrel
      by_cases hg : gk = 0
      · subst hg
        obtain rfl : k = m := by omega
        have hord : orderOk l = true := orderOk_mk (by rw [HL.out]; omega) (fun j hj => HB.out j (by rw [← HL.out]; exact hj))
        have hplay := playF_yes ring_ok hord
        have hU := HK.out.ints
        have G1 := HG1.out.below HBW.out
        have hcall := implPlay_any _ _ _ _ wr G1 hU
        unfold PlayPost at hcall
        rw [show ringGrid = [[[1, 2, 0], [1, 0]], [[2, 3, 0], [2, 0]], [[3, 1, 0], [3, 0]]] from rfl, hplay] at hcall
        have hst : ∀ W u, Below wr.heap.size wr W → RowsAt W u (playW [[[1, 2, 0], [1, 0]], [[2, 3, 0], [2, 0]], [[3, 1, 0], [3, 0]]] l) → Calls Try.prog 31 #[.slice (some ⟨w3.heap.size + 9, 0, none⟩) 3 3, u] W fun e w' => e = .returned (.bool false) ∧ Below W.heap.size W w' := fun W u hW hu => by
          have := implStill_any _ u _ _ W (G1.below hW) hu
          unfold ranksStillF at this
          rw [show ringGrid = [[[1, 2, 0], [1, 0]], [[2, 3, 0], [2, 0]], [[3, 1, 0], [3, 0]]] from rfl, ring_never l, Bool.and_false] at this
          exact this
        have hm1 : ∀ W, Below wr.heap.size wr W → Calls Try.prog 33 #[.slice (some ⟨w3.heap.size + 9, 0, none⟩) 3 3] W fun e w' => e = .returned (.int .i64 0) ∧ Below W.heap.size W w' := fun W hW => by
          have := implMany_any _ _ W (G1.below hW); rw [show manyF ringGrid = 0 from many_ring] at this; exact this
        have hm2' : ∀ W, Below wr.heap.size wr W → Calls Try.prog 33 #[.slice (some ⟨w3.heap.size + 17, 0, none⟩) 3 3] W fun e w' => e = .returned (.int .i64 2) ∧ Below W.heap.size W w' := fun W hW => by
          have := implMany_any _ _ W ((HG2.out.below HBW.out).below hW); rw [show manyF twoGrid = 2 from many_two] at this; exact this
        have HCALL := Lib.hid hcall
        have HST := Lib.hid hst
        have HM1 := Lib.hid hm1
        have HM2 := Lib.hid hm2'
        clear hord hplay hU G1 hcall hst hm1 hm2' hk
        go_wp2_with fail
        refine (HCALL.out).mono ?_
        rintro e w5 ⟨v5, rfl, ho, hb⟩
        have hr5 := ho.rowsAt
        obtain ⟨sa, sc, e', _, _⟩ := hr5.form
        subst e'
        have X5 := Lib.hid hr5
        have B5 := Lib.hid hb
        clear ho hb hr5
        go_wp2_with fail
        refine (HM1.out _ B5.out).mono ?_
        rintro e w6 ⟨rfl, hb⟩
        have X5 := Lib.hid (X5.out.below hb)
        have B5 := Lib.hid (B5.out.trans (hb.mono B5.out.size))
        clear hb
        go_wp2_with fail
        refine (HM2.out _ B5.out).mono ?_
        rintro e w7 ⟨rfl, hb⟩
        have X5 := Lib.hid (X5.out.below hb)
        have B5 := Lib.hid (B5.out.trans (hb.mono B5.out.size))
        clear hb
        go_wp2_with fail
        refine (HST.out _ _ B5.out X5.out).mono ?_
        rintro e w8 ⟨rfl, hb⟩
        have B5 := Lib.hid (B5.out.trans (hb.mono B5.out.size))
        clear hb
        go_wp2_with fail
        go_ret
        exact ⟨rfl, BB.out.trans ((HB8.out.trans ((HBW.out.trans (B5.out.mono HBW.out.size)).mono HB8.out.size)).mono BB.out.size)⟩
      · have hkn : k < m := by omega
        have hkI : (k : Int) < (m : Int) := by omega
        have hgk : 1 ≤ gk := by omega
        obtain ⟨s, hs⟩ : ∃ s : Nat, (k : Int) * (k : Int) = (s : Int) := ⟨k * k, by omega⟩
        have hs361 : s ≤ 361 := by
          have h1 : k * k ≤ 19 * 19 := Nat.mul_le_mul (by omega) (by omega)
          have h2 : ((k * k : Nat) : Int) = (s : Int) := by rw [← hs]; push_cast; rfl
          omega
        have hown := HK.out
        unfold OwnInts at hown
        rw [HL.out] at hown
        have OWN := Lib.hid hown
        have HKK := Lib.hid hk
        have hsz := HBW.out.size
        clear hown hk hg
        go_wp2_with (at_builtin; refine wpList_append_own _ rfl (.tmp 55) (.tmp 64) 27 rfl W8.heap.size 3 i0 (.int .i64 0) 1 8 Try.underlying27 hi hz0 hz1 hz2 rfl (by decide) _ _ _ rfl (World.ownsRow.alloc OWN.out _) ⟨wr.heap.size, 0, none⟩ 1 1 [.int .i64 (((len2 : Int) + (s : Int)) % 3 + 1)] rfl rfl (cell_one_new _ _ _) (by simp [Value.oneCell']) (by unfold maxLen; omega) (by omega) (by simp; omega) ?_; intro v' w6 hown6 hgrow6 _)
        obtain ⟨ra', rc', e', hr1, hr2⟩ := owns_some hown6
        have hrow : ∀ g, (Value.slice (some ⟨og, 0, none⟩) k oc).ownBlock = some g → W8.heap.size ≤ g := fun g hg => (World.ownsRow.lt OWN.out g hg).1
        have b4 : Below wr.heap.size wr (wr.alloc (.cells #[.int .i64 (((len2 : Int) + (s : Int)) % 3 + 1)] 3)) := (Below.refl _ _).alloc (Nat.le_refl _) _
        have K6 := Lib.hid (OwnInts.more HL.out hown6)
        have B6 := Lib.hid ((HBW.out.trans (b4.mono hsz)).grown hgrow6 (by simp; omega) hrow)
        have HB6 : Hid (∀ j, j < k + 1 → 1 ≤ (l ++ [((len2 : Int) + (s : Int)) % 3 + 1]).getD j 0 ∧ (l ++ [((len2 : Int) + (s : Int)) % 3 + 1]).getD j 0 ≤ 3) := Lib.hid fun j hj => by
          rw [append_getD l _ 0 j (by rw [HL.out]; exact hj), HL.out]
          by_cases e : j = k
          · rw [if_pos e]; omega
          · rw [if_neg e]; exact HB.out j (by omega)
        clear hown6 hgrow6 hrow b4
        subst e'
        go_roundg (gk - 1)
        case measure => omega
        case rel => exact ⟨k + 1, rc', ra', _, by go_num, by have := HKK.out; omega, rfl, hr1, hr2, Lib.hid (by rw [List.length_append, HL.out]; rfl), HB6, K6, B6⟩
end Go.Proofs.Ytlkchhedlbaomaa
