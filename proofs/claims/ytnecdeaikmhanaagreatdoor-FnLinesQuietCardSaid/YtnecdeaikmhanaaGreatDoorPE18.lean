/- A part of the proof; packed by a program of mine out of my texts. -/
import Derived.Test.YtnecdeaikmhanaaGreatDoorPE0
import Derived.Test.YtnecdeaikmhanaaGreatDoorPE1
import Derived.Test.YtnecdeaikmhanaaGreatDoorPE2
import Derived.Test.YtnecdeaikmhanaaGreatDoorPE3
import Derived.Test.YtnecdeaikmhanaaGreatDoorPE4
import Derived.Test.YtnecdeaikmhanaaGreatDoorPE5
import Derived.Test.YtnecdeaikmhanaaGreatDoorPE6
import Derived.Test.YtnecdeaikmhanaaGreatDoorPE7
import Derived.Test.YtnecdeaikmhanaaGreatDoorPE8
import Derived.Test.YtnecdeaikmhanaaGreatDoorPE9
import Derived.Test.YtnecdeaikmhanaaGreatDoorPE10
import Derived.Test.YtnecdeaikmhanaaGreatDoorPE12
import Derived.Test.YtnecdeaikmhanaaGreatDoorPE13
import Derived.Test.YtnecdeaikmhanaaGreatDoorPE14
import Derived.Test.YtnecdeaikmhanaaGreatDoorPE15
import Derived.Test.YtnecdeaikmhanaaGreatDoorPE17
namespace Go.Proofs.YtnecdeaikmhanaaGreatDoor
open Go.RowKit
set_option linter.unusedVariables false
set_option maxRecDepth 100000
set_option maxHeartbeats 4000000 in
theorem none_any (w : World) : Calls Tryz.prog 22 #[] w fun e w' => ∃ v, e = .returned v ∧ MatB w' w.heap.size w'.heap.size v st0.rels ∧ Below w.heap.size w w' := by
  have hz : MatB (w.alloc (.cells #[] 37)) w.heap.size (w.heap.size + 1) (.slice (some ⟨w.heap.size, 0, none⟩) 0 0) [] := MatB.zero w
  have HZ := Lib.hid hz
  have hmk := make_four
  clear hz
  go_enter Tryz.func22, Tryz.ntmps22
  go_wp2_with fail
  go_loopg [1, 2] 4 (fun gk s1 s2 wr => ∃ j : Nat, s2 = .int .i64 (j : Int) ∧ j + gk = 4 ∧ Hid (MatB wr w.heap.size wr.heap.size s1 (List.replicate j [0, 0, 0, 0])) ∧ Hid (Below w.heap.size w wr))
  case atStart => exact ⟨0, rfl, by omega, Lib.hid (by have := HZ.out; rw [show w.heap.size + 1 = (w.alloc (.cells #[] 37)).heap.size by simp] at this; exact this), Lib.hid (by repeat (first | exact Below.refl _ _ | assumption | refine Below.drew ?_ | refine belowDrewN ?_ _ | refine Below.alloc ?_ (by first | exact Nat.le_refl _ | omega | (simp; done) | (simp; omega)) _ | refine Below.setCell ?_ (by first | exact Nat.le_refl _ | omega | (simp; done) | (simp; omega)) _))⟩
  case round =>
    clear HZ
    obtain ⟨j, rfl, hj, M, B⟩ := hrel
    obtain ⟨ad, c, rfl, _, _⟩ := M.out.form
    have hlr := List.length_replicate (n := j) (a := [(0 : Int), 0, 0, 0])
    have M2 : Hid (MatB wr w.heap.size wr.heap.size (.slice ad j c) (List.replicate j [0, 0, 0, 0])) := Lib.hid (by have := M.out; rw [hlr] at this; exact this)
    rw [hlr]
    have hsz := B.out.size
    clear M hlr
    by_cases hj4 : j = 4
    · subst hj4
      go_wp2_with fail
      go_ret
      exact ⟨_, rfl, M2.out, B.out⟩
    · have hjd : (j : Int) < 4 := by omega
      have hjn : j < 4 := by omega
      have HJ := Lib.hid hj
      clear hj hj4
      go_wp2_with (at_builtin; refine wpList_append_mat (W := wr.alloc (.cells #[.int .i64 0, .int .i64 0, .int .i64 0, .int .i64 0] 3)) rfl (.tmp 8) (.tmp 10) rfl w.heap.size (.slice ad j c) (.slice (some ⟨wr.heap.size, 0, none⟩) 4 4) (List.replicate j [0, 0, 0, 0]) [0, 0, 0, 0] j wr.heap.size wr.heap.size (by simp) (by simp [Act.eval]) (M2.out.below (by repeat (first | exact Below.refl _ _ | assumption | refine Below.drew ?_ | refine belowDrewN ?_ _ | refine Below.alloc ?_ (by first | exact Nat.le_refl _ | omega | (simp; done) | (simp; omega)) _ | refine Below.setCell ?_ (by first | exact Nat.le_refl _ | omega | (simp; done) | (simp; omega)) _))) (by simp; omega) _ (by simp [Act.eval]; rfl) (by simp) (four_new wr _ (Nat.le_refl _)) (Nat.le_refl _) (by omega) ⟨_, _, _, rfl⟩ (by omega) ?_; intro ad3 c3 w3 hM3 hb3 hs3; have M3 := Lib.hid hM3; have B3 : Hid (Below w.heap.size w w3) := Lib.hid ((Below.alloc B.out (by omega) _).trans hb3); clear hM3 hb3)
      go_roundg (4 - (j + 1))
      case measure => have := HJ.out; omega
      case rel => exact ⟨j + 1, by go_num, by omega, Lib.hid (by rw [List.replicate_succ']; exact M3.out), B3⟩
theorem cutStep_set {c : UInt8} {out : List Bs} {b : UInt8} {m : Nat} (hm : out.length = m + 1) (h : ¬ b = c) : cutStep c out b = out.set m (out.getD m [] ++ [b]) := by
  unfold cutStep
  rw [if_neg h]
  have hne : out ≠ [] := by intro e; rw [e] at hm; simp at hm
  obtain ⟨xs, x, rfl⟩ := last_form hne
  have hx : xs.length = m := by simpa using hm
  subst hx
  rw [List.dropLast_concat, getLastD_snoc]
  simp [List.getD_eq_getElem?_getD]
theorem take_one {s : Bs} {i : Nat} (h : i < s.length) : s.take (i + 1) = s.take i ++ [s.getD i 0] := by
  rw [List.take_add_one, List.getElem?_eq_getElem h, List.getD_eq_getElem?_getD, List.getElem?_eq_getElem h]; rfl
set_option maxHeartbeats 8000000 in
theorem cut_any (c : UInt8) (s : Bs) (hs : s.length ≤ 100000) (w : World) : Calls Tryz.prog 23 #[stV s, .int .u8 (c.toNat : Int)] w fun e w' => ∃ v, e = .returned v ∧ StrNew w' w.heap.size v (cutC c s) ∧ Below w.heap.size w w' := by
  obtain ⟨t, ht⟩ : ∃ t : ByteArray, t = ⟨s.toArray⟩ := ⟨_, rfl⟩
  have hdl : t.data.toList = s := by rw [ht]
  obtain ⟨n, hn⟩ : ∃ n, s.length = n := ⟨_, rfl⟩
  have hsz : t.size = n := by rw [← hn, ← hdl]; rfl
  have hX : ∀ j, j < n → ∀ W, (Instr.index 9 (.string t) (.int .i64 (j : Int))).run Tryz.prog W = .ok (.int .u8 ((s.getD j 0).toNat : Int)) W := fun j hj W => index_str t s hdl j (by omega) W
  unfold stV
  rw [← ht]
  have HX := Lib.hid hX
  have HN := Lib.hid hn
  obtain ⟨ci, hci⟩ : ∃ ci : Int, (c.toNat : Int) = ci := ⟨_, rfl⟩
  rw [hci]
  have HC := Lib.hid hci
  have HS : Hid (n ≤ 100000) := Lib.hid (by omega)
  clear ht hdl hX hn hci hs
  go_enter Tryz.func23, Tryz.ntmps23
  go_wp2_with fail
  go_loopg [5, 6] n (fun gk s5 s6 wr => ∃ j : Nat, s6 = .int .i64 (j : Int) ∧ j + gk = n ∧ Hid (StrNew wr w.heap.size s5 (cutC c (s.take j))) ∧ Hid (Below w.heap.size w wr))
  case atStart =>
    have e0 : cutC c (s.take 0) = [[]] := by rw [List.take_zero]; rfl
    refine ⟨0, rfl, by omega, Lib.hid (by rw [e0]; exact ⟨rfl, .inr ⟨w.heap.size, 1, _, rfl, Nat.le_refl _, heap_alloc_new _ _, by simp, by simp [maxLen], rfl, rfl⟩⟩), Lib.hid (by repeat (first | exact Below.refl _ _ | assumption | refine Below.drew ?_ | refine belowDrewN ?_ _ | refine Below.alloc ?_ (by first | exact Nat.le_refl _ | omega | (simp; done) | (simp; omega)) _ | refine Below.setCell ?_ (by first | exact Nat.le_refl _ | omega | (simp; done) | (simp; omega)) _))⟩
  case round =>
    obtain ⟨j, rfl, hj, S, B⟩ := hrel
    obtain ⟨N, hN⟩ : ∃ N, (cutC c (s.take j)).length = N + 1 := ⟨(cutC c (s.take j)).length - 1, by have := List.length_pos_iff.2 (cutC_ne c (s.take j)); omega⟩
    have hcnt := cut_count c (s.take j)
    have htl : (s.take j).length = j := by rw [List.length_take, HN.out]; omega
    have hlast := cut_len c (s.take j) N
    rw [hN, htl] at hcnt
    rw [htl] at hlast
    obtain ⟨ad, cp, rfl, _, _⟩ := S.out.form
    rw [hN]
    have S2 : Hid (StrNew wr w.heap.size (.slice ad (N + 1) cp) (cutC c (s.take j))) := Lib.hid (by have := S.out; rw [hN] at this; exact this)
    have hws := B.out.size
    have HNN := Lib.hid hN
    clear S htl hN
    by_cases hjn : j < n
    · have hjI : (j : Int) < (n : Int) := by omega
      have hsnoc := cutC_snoc c (s.take j) (s.getD j 0)
      rw [← take_one (by rw [HN.out]; exact hjn)] at hsnoc
      have hix := HX.out j hjn
      obtain ⟨x, hx⟩ : ∃ x, s.getD j 0 = x := ⟨_, rfl⟩
      rw [hx] at hsnoc hix
      obtain ⟨xi, hxi⟩ : ∃ xi : Int, (x.toNat : Int) = xi := ⟨_, rfl⟩
      have hnS := HS.out
      by_cases hxc : x = c
      · have hq : (xi == ci) = true := by rw [beq_iff_eq, ← hxi, ← HC.out, hxc]
        rw [hxi] at hix
        unfold cutStep at hsnoc
        rw [if_pos hxc] at hsnoc
        have HSN := Lib.hid hsnoc
        have HJ := Lib.hid hj
        clear hsnoc hj hx hxi hxc hlast
        go_wp2_with (at_builtin; go_loud (refine wpList_append_str (W := wr) rfl (.tmp 19) (.tmp 20) rfl w.heap.size (.slice ad (N + 1) cp) [] (cutC c (s.take j)) (N + 1) HNN.out rfl S2.out (by omega) _ rfl rfl (by omega) ?_); intro ad3 c3 w3 hM3 hb3 hs3; have M3 := Lib.hid hM3; have B3 : Hid (Below w.heap.size w w3) := Lib.hid (B.out.trans hb3); clear hM3 hb3)
        go_roundg (n - (j + 1))
        case measure => have := HJ.out; omega
        case rel => exact ⟨j + 1, by go_num, by omega, Lib.hid (by rw [HSN.out]; exact M3.out), B3⟩
      · have hq : (xi == ci) = false := by
          rw [beq_eq_false_iff_ne, ← hxi, ← HC.out]
          intro e
          exact hxc (UInt8.toNat_inj.1 (by omega))
        rw [hxi] at hix
        rw [cutStep_set HNN.out hxc] at hsnoc
        obtain ⟨la, hla⟩ : ∃ la, (cutC c (s.take j)).getD N [] = la := ⟨_, rfl⟩
        obtain ⟨g, cp', e, hlog, hgs, hcg, hfg⟩ := S2.out.get HNN.out N (by omega)
        simp only [Value.slice.injEq] at e
        obtain ⟨rfl, _, rfl⟩ := e
        rw [hla] at hsnoc hlast hcg
        have hadd := add_is la [x] (by simp; omega)
        have hcv := conv_one x xi hxi
        have ew1 : IntKind.i64.wrap ((N : Int) + 1 - 1) = (N : Int) := by rw [show (N : Int) + 1 - 1 = (N : Int) by omega]; exact IntWalk.i64_in _ (by omega)
        have ew2 : IntKind.i64.wrap (N : Int) = (N : Int) := IntWalk.i64_in _ (by omega)
        have hN1 : (N : Int) < (N : Int) + 1 := by omega
        have hgn : ¬ g = wr.heap.size := by omega
        have hng : ¬ wr.heap.size = g := by omega
        have HSN := Lib.hid hsnoc
        have HJ := Lib.hid hj
        clear hsnoc hj hx hxi hxc hlast hla
        go_wp2_with fail
        go_region_law (fail)
        all_goals
          go_wp2_with fail
          go_roundg (n - (j + 1))
          case measure => have := HJ.out; omega
          case rel =>
            have z := S2.out.set HNN.out N (by omega) (la ++ [x])
            have zl : ((cutC c (s.take j)).set N (la ++ [x])).length = N + 1 := by rw [List.length_set, HNN.out]
            exact ⟨j + 1, by go_num, by omega, Lib.hid (by rw [HSN.out]; exact z.below (by repeat (first | exact Below.refl _ _ | assumption | refine Below.drew ?_ | refine belowDrewN ?_ _ | refine Below.alloc ?_ (by first | exact Nat.le_refl _ | omega | (simp; done) | (simp; omega)) _ | refine Below.setCell ?_ (by first | exact Nat.le_refl _ | omega | (simp; done) | (simp; omega)) _))), Lib.hid (by have := B.out; repeat (first | exact Below.refl _ _ | assumption | refine Below.drew ?_ | refine belowDrewN ?_ _ | refine Below.alloc ?_ (by first | exact Nat.le_refl _ | omega | (simp; done) | (simp; omega)) _ | refine Below.setCell ?_ (by first | exact Nat.le_refl _ | omega | (simp; done) | (simp; omega)) _))⟩
    · obtain rfl : j = n := by omega
      have htk : s.take j = s := by rw [List.take_of_length_le (by rw [HN.out]; omega)]
      rw [htk] at S2
      clear htk
      go_wp2_with fail
      go_ret
      exact ⟨_, rfl, S2.out, B.out⟩
end Go.Proofs.YtnecdeaikmhanaaGreatDoor
namespace Go.Proofs.YtnecdeaikmhanaaGreatDoor
open Go.RowKit
set_option linter.unusedVariables false
set_option maxRecDepth 100000
theorem in14_any (x : Int) (W : World) : Calls Tryz.prog 41 #[.int .i64 x, .int .i64 1, .int .i64 4] W fun e w' => e = .returned (.bool (in14 x)) ∧ W = w' := by
  refine (in_any x 1 4 W).mono ?_
  rintro e w' ⟨rfl, rfl⟩
  exact ⟨rfl, rfl⟩
theorem take_rows {R : List (List Int)} {j : Nat} (h : j < R.length) : R.take (j + 1) = R.take j ++ [R.getD j []] := by
  rw [List.take_add_one, List.getElem?_eq_getElem h, List.getD_eq_getElem?_getD, List.getElem?_eq_getElem h]; rfl
theorem RowsAt.fetch {w : World} {a : Option Addr} {n cap : Nat} {ll : List (List Int)} (h : RowsAt w (.slice a n cap) ll) (hn : ll.length = n) (i : Nat) (hi : i < n) :
    ∃ b off u, a = some ⟨b, off, none⟩ ∧ b < w.heap.size ∧ w.cell? ⟨b, off + i, none⟩ = some u ∧ IntsAt w u (ll.getD i []) := by
  obtain ⟨f, h1, h2⟩ := h
  rw [hn] at h1 h2
  obtain ⟨b, off, e, hb, hc⟩ := SliceAt.get h1 i hi
  exact ⟨b, off, f i, e, hb, hc, h2 i hi⟩
theorem MatB.put {w : World} {lo hi n : Nat} {a : Option Addr} {cap : Nat} {ll : List (List Int)} (h : MatB w lo hi (.slice a n cap) ll) (hn : ll.length = n) (i j m : Nat) (hi' : i < n) (hm : (ll.getD i []).length = m) (hj : j < m) :
    ∃ g b c, a = some ⟨g, 0, none⟩ ∧ g < w.heap.size ∧ b < w.heap.size ∧ lo ≤ b ∧ w.cell? ⟨g, i, none⟩ = some (.slice (some ⟨b, 0, none⟩) m c) ∧ (∃ y, w.cell? ⟨b, j, none⟩ = some (.int .i64 y)) ∧ w.frozen? ⟨b, j, none⟩ = false ∧
      ∀ w5, Below w.heap.size w w5 → ∀ x : Int, MatB (w5.setCell ⟨b, j, none⟩ (.int .i64 x)) lo hi (.slice a n cap) (relSet ll i j x) := by
  obtain ⟨g, b, c, rfl, g1, g2, g3, g4, g5, g6, g7, g8, g9, ⟨cb, g10⟩, ⟨cg, g11⟩, g12⟩ := h.at hn i j hi' (by rw [hm]; exact hj)
  rw [hm] at g3
  have hg := heap_lt g11
  refine ⟨g, b, c, rfl, hg, heap_lt g10, g6, g3, g8, g9, fun w5 hb x => ?_⟩
  obtain ⟨g', b', c', e, _, _, k3, _, _, _, _, _, _, _, _, k12⟩ := (h.below hb).at hn i j hi' (by rw [hm]; exact hj)
  simp only [Option.some.injEq, Addr.mk.injEq] at e
  obtain ⟨rfl, _, _⟩ := e
  rw [(hb.cell (p := ⟨g, i, none⟩) hg), g3, hm] at k3
  simp only [Option.some.injEq, Value.slice.injEq, Addr.mk.injEq] at k3
  obtain ⟨⟨rfl, _⟩, _⟩ := k3
  exact k12 x
def relNew (R : List (List Int)) (a b r : Int) : List (List Int) := if in14 a = true ∧ in14 b = true ∧ a ≠ b then relF R a b r else R
set_option maxHeartbeats 8000000 in
theorem rel_any (v : Value) (R : List (List Int)) (a b r : Int) (w : World) (h : RowsAt w v R) (hl : R.length = 4) (hrow : ∀ i, i < 4 → (R.getD i []).length = 4) (h0 : 0 ≤ r) (h3 : r ≤ 3) :
    Calls Tryz.prog 42 #[v, .int .i64 a, .int .i64 b, .int .i64 r] w fun e w' => ∃ v' hi, e = .returned v' ∧ MatB w' w.heap.size hi v' (relNew R a b r) ∧ Below w.heap.size w w' := by
  obtain ⟨va, vc, rfl, hvc, hvm⟩ := h.form
  rw [hl] at hvc h ⊢
  have hz : MatB (w.alloc (.cells #[] 37)) w.heap.size (w.heap.size + 1) (.slice (some ⟨w.heap.size, 0, none⟩) 0 0) [] := MatB.zero w
  have HZ := Lib.hid hz
  have H := Lib.hid h
  have HL := Lib.hid hl
  have HR := Lib.hid hrow
  have H0 := Lib.hid (And.intro h0 h3)
  have HI1 := Lib.hid (in14_any a)
  have HI2 := Lib.hid (in14_any b)
  have HBK := Lib.hid (fun W => l12Back_is r h0 h3 W)
  clear h hl hrow hz h0 h3
  go_enter Tryz.func42, Tryz.ntmps42
  go_wp2_with fail
  go_loopg [9, 10] 4 (fun gk s9 s10 wr => ∃ j : Nat, s10 = .int .i64 (j : Int) ∧ j + gk = 4 ∧ Hid (MatB wr w.heap.size wr.heap.size s9 (R.take j)) ∧ Hid (Below w.heap.size w wr))
  case atStart => exact ⟨0, rfl, by omega, Lib.hid (by have := HZ.out; rw [show w.heap.size + 1 = (w.alloc (.cells #[] 37)).heap.size by simp] at this; exact this), Lib.hid (by repeat (first | exact Below.refl _ _ | assumption | refine Below.drew ?_ | refine belowDrewN ?_ _ | refine Below.alloc ?_ (by first | exact Nat.le_refl _ | omega | (simp; done) | (simp; omega)) _ | refine Below.setCell ?_ (by first | exact Nat.le_refl _ | omega | (simp; done) | (simp; omega)) _))⟩
  case round =>
    clear HZ
    obtain ⟨j, rfl, hj, M, B⟩ := hrel
    obtain ⟨ad, c, rfl, _, _⟩ := M.out.form
    have hlr : (R.take j).length = j := by rw [List.length_take, HL.out]; omega
    have M2 : Hid (MatB wr w.heap.size wr.heap.size (.slice ad j c) (R.take j)) := Lib.hid (by have := M.out; rw [hlr] at this; exact this)
    have HLR := Lib.hid hlr
    rw [hlr]
    have hsz := B.out.size
    clear M hlr
    by_cases hj4 : j = 4
    · subst hj4
      have htk : R.take 4 = R := by rw [List.take_of_length_le (by rw [HL.out]; omega)]
      rw [htk] at M2
      clear htk HLR
      cases hc1 : in14 a with
      | false =>
        rw [hc1] at HI1
        have hx : relNew R a b r = R := by unfold relNew; rw [if_neg (by rw [hc1]; simp)]
        have HX := Lib.hid hx
        clear hx hc1
        go_wp2_with fail
        refine (HI1.out _).mono ?_
        rintro e w' ⟨rfl, rfl⟩
        go_wp2_with fail
        go_ret
        exact ⟨_, _, rfl, by rw [HX.out]; exact M2.out, B.out⟩
      | true =>
        rw [hc1] at HI1
        cases hc2 : in14 b with
        | false =>
          rw [hc2] at HI2
          have hx : relNew R a b r = R := by unfold relNew; rw [if_neg (by rw [hc2]; simp)]
          have HX := Lib.hid hx
          clear hx hc1 hc2
          go_wp2_with fail
          refine (HI1.out _).mono ?_
          rintro e w' ⟨rfl, rfl⟩
          go_wp2_with fail
          refine (HI2.out _).mono ?_
          rintro e w' ⟨rfl, rfl⟩
          go_wp2_with fail
          go_ret
          exact ⟨_, _, rfl, by rw [HX.out]; exact M2.out, B.out⟩
        | true =>
          rw [hc2] at HI2
          by_cases hab : a = b
          · have hx : relNew R a b r = R := by unfold relNew; rw [if_neg (by simp [hab])]
            have HX := Lib.hid hx
            have hq : (a != b) = false := by rw [bne_eq_false_iff_eq]; exact hab
            clear hx hc1 hc2 hab
            go_wp2_with fail
            refine (HI1.out _).mono ?_
            rintro e w' ⟨rfl, rfl⟩
            go_wp2_with fail
            refine (HI2.out _).mono ?_
            rintro e w' ⟨rfl, rfl⟩
            go_wp2_with fail
            go_ret
            exact ⟨_, _, rfl, by rw [HX.out]; exact M2.out, B.out⟩
          · have hx : relNew R a b r = relF R a b r := by unfold relNew; rw [if_pos ⟨hc1, hc2, hab⟩]
            have hq : (a != b) = true := by rw [bne_iff_ne]; exact hab
            have hax : 1 ≤ a ∧ a ≤ 4 := by unfold in14 at hc1; simpa using hc1
            have hbx : 1 ≤ b ∧ b ≤ 4 := by unfold in14 at hc2; simpa using hc2
            obtain ⟨i, hi⟩ : ∃ i : Nat, a = (i : Int) + 1 := ⟨(a - 1).toNat, by omega⟩
            obtain ⟨k, hk⟩ : ∃ k : Nat, b = (k : Int) + 1 := ⟨(b - 1).toNat, by omega⟩
            subst hi
            subst hk
            have hi4 : i < 4 := by omega
            have hk4 : k < 4 := by omega
            have hik : i ≠ k := by omega
            unfold relF at hx
            have si : (i : Int) + 1 - 1 = (i : Int) := by omega
            have sk : (k : Int) + 1 - 1 = (k : Int) := by omega
            rw [si, sk] at hx
            simp only [Int.toNat_natCast] at hx
            have wi : IntKind.i64.wrap (i : Int) = (i : Int) := IntWalk.i64_in _ (by omega)
            have wk : IntKind.i64.wrap (k : Int) = (k : Int) := IntWalk.i64_in _ (by omega)
            have i0 : (0 : Int) ≤ (i : Int) := by omega
            have k0 : (0 : Int) ≤ (k : Int) := by omega
            have i4 : (i : Int) < 4 := by omega
            have k4 : (k : Int) < 4 := by omega
            obtain ⟨q, hqq⟩ : ∃ q, backF r = q := ⟨_, rfl⟩
            rw [hqq] at HBK hx
            have HX := Lib.hid hx
            obtain ⟨g, b1, c1, e, xg, xb, xlo, x2, ⟨y1, x4⟩, x5, hset⟩ := M2.out.put HL.out i k 4 hi4 (HR.out i hi4) hk4
            subst e
            have hM3 := hset wr (Below.refl _ _) r
            obtain ⟨l1, r1⟩ := relSet_lens HL.out HR.out i k hi4 r
            have hset2 := hM3.put l1 k i 4 hk4 (r1 k hk4) hi4
            have HS2 := Lib.hid hset2
            have xb3 : Below w.heap.size w (wr.setCell ⟨b1, k, none⟩ (.int .i64 r)) := Below.setCell B.out (xlo) _
            have B3 := Lib.hid xb3
            clear hset2 hM3 xb3 l1 r1
            clear hset hx hc1 hc2 hab hax hbx hqq hj hi4 hk4 hik
            go_wp2_with fail
            refine (HI1.out _).mono ?_
            rintro e w' ⟨rfl, rfl⟩
            go_wp2_with fail
            refine (HI2.out _).mono ?_
            rintro e w' ⟨rfl, rfl⟩
            go_upto_region 8 with fail
            obtain ⟨W1, hW1⟩ : ∃ W1, wr.setCell ⟨b1, k, none⟩ (.int .i64 r) = W1 := ⟨_, rfl⟩
            rw [hW1] at HS2 B3 ⊢
            obtain ⟨g', b2, c2, e, xg2, xb2, ylo, y2, ⟨y3, y4⟩, y5, hfin⟩ := HS2.out
            simp only [Option.some.injEq, Addr.mk.injEq] at e
            obtain ⟨rfl, _, _⟩ := e
            have HFIN := Lib.hid hfin
            clear hfin hW1 x2 x4 x5 HS2
            go_wp2_with fail
            go_region_law (go_simp; go_at_call 73; refine (HBK.out _).mono ?_; rintro e w5 ⟨rfl, hb5⟩; have hb6 : Below W1.heap.size W1 w5 := (by refine Below.trans ?_ (hb5.mono (by first | exact Nat.le_refl _ | omega | (simp; done) | (simp; omega))); repeat (first | exact Below.refl _ _ | assumption | refine Below.drew ?_ | refine belowDrewN ?_ _ | refine Below.alloc ?_ (by first | exact Nat.le_refl _ | omega | (simp; done) | (simp; omega)) _ | refine Below.setCell ?_ (by first | exact Nat.le_refl _ | omega | (simp; done) | (simp; omega)) _)); have HB6 := Lib.hid hb6; have z2 := (hb6.cell (p := ⟨g, k, none⟩) xg2).trans y2; have z4 := (hb6.cell (p := ⟨b2, i, none⟩) xb2).trans y4; have z5 := (hb6.frozen (p := ⟨b2, i, none⟩) xb2).trans y5; clear hb5 hb6)
            all_goals
              go_wp2_with fail
              go_ret
              have zf := HFIN.out w5 HB6.out q
              refine ⟨_, _, rfl, by rw [HX.out]; exact zf, Below.setCell (B3.out.trans (HB6.out.mono B3.out.size)) ylo _⟩
    · have hjd : (j : Int) < 4 := by omega
      have hjn : j < 4 := by omega
      have HJ := Lib.hid hj
      obtain ⟨b0, off, u, rfl, hb0, hcu, hu⟩ := (H.out.below B.out).fetch HL.out j hjn
      have hsnoc := take_rows (R := R) (j := j) (by rw [HL.out]; exact hjn)
      obtain ⟨row, hrw⟩ : ∃ row, R.getD j [] = row := ⟨_, rfl⟩
      have hr4 := HR.out j hjn
      rw [hrw] at hu hsnoc hr4
      obtain ⟨ua, uc, rfl, _, _⟩ := hu.form
      rw [hr4] at hu hcu
      have HU := Lib.hid hu
      have HSN := Lib.hid hsnoc
      have HR4 := Lib.hid hr4
      clear hj hj4 hu hsnoc hr4 hrw
      have j0 : (0 : Int) ≤ (j : Int) := by omega
      have hb0n : ¬ b0 = wr.heap.size := by omega
      go_wp2_with (first
        | (at_builtin; (refine wpList_append_ints rfl (.tmp 19) (.tmp 23) rfl wr.heap.size (.slice (some ⟨wr.heap.size, 0, none⟩) 0 0) (.slice ua 4 uc) [] row 4 (by rw [HR4.out]; rfl) rfl (OwnInts.zero wr) (by simp) rfl (HU.out.below (by repeat (first | exact Below.refl _ _ | assumption | refine Below.drew ?_ | refine belowDrewN ?_ _ | refine Below.alloc ?_ (by first | exact Nat.le_refl _ | omega | (simp; done) | (simp; omega)) _ | refine Below.setCell ?_ (by first | exact Nat.le_refl _ | omega | (simp; done) | (simp; omega)) _))) (by omega) ?_); intro ad3 c3 w3 hM3 hb3 hs3; have M3 := Lib.hid hM3; have B3 : Hid (Below wr.heap.size wr w3) := Lib.hid ((Below.alloc (Below.refl _ _) (Nat.le_refl _) _).trans hb3); have z3 := B3.out.size; clear hM3 hb3)
        | (at_builtin; (refine wpList_append_mat (W := w3) rfl (.tmp 18) (.tmp 25) rfl w.heap.size (.slice ad j c) (.slice ad3 4 c3) (R.take j) row j wr.heap.size wr.heap.size HLR.out rfl (M2.out.below B3.out) (by omega) _ rfl rfl (by have := M3.out; rw [List.nil_append] at this; exact this) (Nat.le_refl _) (by omega) ⟨_, _, _, rfl⟩ (by omega) ?_); intro ad4 c4 w4 hM4 hb4 hs4; have M4 := Lib.hid hM4; have B4 : Hid (Below w.heap.size w w4) := Lib.hid ((B.out.trans (B3.out.mono hsz)).trans hb4); clear hM4 hb4))
      go_roundg (4 - (j + 1))
      case measure => have := HJ.out; omega
      case rel => exact ⟨j + 1, by go_num, by omega, Lib.hid (by rw [HSN.out]; exact M4.out), B4⟩
end Go.Proofs.YtnecdeaikmhanaaGreatDoor
namespace Go.Proofs.YtnecdeaikmhanaaGreatDoor
open Go.RowKit
set_option linter.unusedVariables false
set_option maxRecDepth 100000
def hpStep (e : Ent) (x : List Ent × Bool) (y : Ent) : List Ent × Bool := if x.2 = false ∧ 0 < ordF y e then (x.1 ++ [e] ++ [y], true) else (x.1 ++ [y], x.2)
def hpTo (H : List Ent) (e : Ent) (j : Nat) : List Ent × Bool := (H.take j).foldl (hpStep e) ([], false)
theorem hp_take {H : List Ent} {j : Nat} (h : j < H.length) : H.take (j + 1) = H.take j ++ [H.getD j (0, 0, 0)] := by
  rw [List.take_add_one, List.getElem?_eq_getElem h, List.getD_eq_getElem?_getD, List.getElem?_eq_getElem h]; rfl
theorem hpTo_succ {H : List Ent} {e : Ent} {j : Nat} (h : j < H.length) : hpTo H e (j + 1) = hpStep e (hpTo H e j) (H.getD j (0, 0, 0)) := by
  unfold hpTo
  rw [hp_take h, List.foldl_append]; rfl
theorem hpTo_len {H : List Ent} {e : Ent} : ∀ j, j ≤ H.length → (hpTo H e j).1.length ≤ j + 1 ∧ ((hpTo H e j).2 = false → (hpTo H e j).1.length ≤ j)
  | 0, _ => by simp [hpTo]
  | j + 1, h => by
    obtain ⟨h1, h2⟩ := hpTo_len (H := H) (e := e) j (by omega)
    rw [hpTo_succ (by omega)]
    unfold hpStep
    split
    · rename_i hx
      have := h2 hx.1
      simp; omega
    · simp; exact ⟨h1, h2⟩
theorem hp_true (e : Ent) : ∀ (H o : List Ent), H.foldl (hpStep e) (o, true) = (o ++ H, true)
  | [], o => by simp
  | y :: t, o => by
    rw [List.foldl_cons, show hpStep e (o, true) y = (o ++ [y], true) by simp [hpStep], hp_true e t, List.append_assoc]; rfl
def hpS (H : List Ent) (e : Ent) : List Ent := H.takeWhile (fun x => decide (ordF x e ≤ 0)) ++ e :: H.dropWhile (fun x => decide (ordF x e ≤ 0))
theorem hp_false (e : Ent) : ∀ (H o : List Ent), (if (H.foldl (hpStep e) (o, false)).2 = true then (H.foldl (hpStep e) (o, false)).1 else (H.foldl (hpStep e) (o, false)).1 ++ [e]) = o ++ hpS H e
  | [], o => by simp [hpS]
  | y :: t, o => by
    rw [List.foldl_cons]
    by_cases h : 0 < ordF y e
    · have hn : ¬ ordF y e ≤ 0 := by omega
      rw [show hpStep e (o, false) y = (o ++ [e] ++ [y], true) by simp [hpStep, h], hp_true]
      simp [hpS, hn]
    · have hn : ordF y e ≤ 0 := by omega
      rw [show hpStep e (o, false) y = (o ++ [y], false) by simp [hpStep, h], hp_false e t]
      simp [hpS, hn]
theorem hp_all (H : List Ent) (e : Ent) : (if (hpTo H e H.length).2 = true then (hpTo H e H.length).1 else (hpTo H e H.length).1 ++ [e]) = hpS H e := by
  have := hp_false e H []
  unfold hpTo
  rw [List.take_length]
  simpa using this
theorem mid_alone {R : List (List Int)} {A B : List Ent} {e : Ent} (h : homesOkF R (A ++ e :: B) = true) : ∀ x, x ∈ A ∨ x ∈ B → ordF x e ≠ 0 := by
  intro x hx h0
  have hr := homes_rise h
  have he : (A ++ e :: B).getD A.length (0, 0, 0) = e := by simp [List.getD_eq_getElem?_getD]
  have hl : (A ++ e :: B).length = A.length + 1 + B.length := by simp; omega
  have hz : x.1 = e.1 ∧ x.2.1 = e.2.1 := by
    have : ordF x (e.1, e.2.1, 0) = 0 := h0
    exact ord_zero this
  rcases hx with hx | hx
  · obtain ⟨i, hi, rfl⟩ := List.getElem_of_mem hx
    have hg : (A ++ e :: B).getD i (0, 0, 0) = A[i] := by rw [List.getD_eq_getElem?_getD, List.getElem?_append_left hi, List.getElem?_eq_getElem hi]; rfl
    have := rise_same hr (i := A.length) (q := i) (by omega) (by omega) (by rw [hg, he]; exact hz.1) (by rw [hg, he]; exact hz.2)
    omega
  · obtain ⟨i, hi, rfl⟩ := List.getElem_of_mem hx
    have hg : (A ++ e :: B).getD (A.length + 1 + i) (0, 0, 0) = B[i] := by
      rw [List.getD_eq_getElem?_getD, List.getElem?_append_right (by omega), show A.length + 1 + i - A.length = i + 1 by omega, List.getElem?_cons_succ, List.getElem?_eq_getElem hi]; rfl
    have := rise_same hr (i := A.length) (q := A.length + 1 + i) (by omega) (by omega) (by rw [hg, he]; exact hz.1) (by rw [hg, he]; exact hz.2)
    omega
theorem hp_same {H : List Ent} {e : Ent} (h : ∀ x, x ∈ H → ordF x e ≠ 0) : hpS H e = homePut H e := by
  have he : ∀ l : List Ent, (∀ x, x ∈ l → ordF x e ≠ 0) → l.takeWhile (fun x => decide (ordF x e ≤ 0)) = l.takeWhile (fun x => decide (ordF x e < 0)) ∧ l.dropWhile (fun x => decide (ordF x e ≤ 0)) = l.dropWhile (fun x => decide (ordF x e < 0)) := by
    intro l
    induction l with
    | nil => intro _; exact ⟨rfl, rfl⟩
    | cons y t ih =>
      intro hl
      have h1 := hl y (by simp)
      obtain ⟨a, b⟩ := ih fun x hx => hl x (by simp [hx])
      have hd : decide (ordF y e ≤ 0) = decide (ordF y e < 0) := by
        by_cases hy : ordF y e < 0
        · rw [decide_eq_true hy, decide_eq_true (by omega)]
        · rw [decide_eq_false hy, decide_eq_false (by omega)]
      simp only [List.takeWhile_cons, List.dropWhile_cons, hd]
      exact ⟨by rw [a], by rw [b]⟩
  obtain ⟨a, b⟩ := he H h
  unfold hpS homePut
  rw [a, b]
theorem hp_ok {R : List (List Int)} {H : List Ent} {e : Ent} : homesOkF R (hpS H e) = homesOkF R (homePut H e) ∧ (homesOkF R (homePut H e) = true → hpS H e = homePut H e) := by
  by_cases h : ∀ x, x ∈ H → ordF x e ≠ 0
  · rw [hp_same h]; exact ⟨rfl, fun _ => rfl⟩
  · have hm : ∃ x, x ∈ H ∧ ordF x e = 0 := by
      apply Classical.byContradiction
      intro hn
      exact h fun x hx h0 => hn ⟨x, hx, h0⟩
    obtain ⟨x, hx, h0⟩ := hm
    have f1 : homesOkF R (hpS H e) = false := by
      cases ho : homesOkF R (hpS H e) with
      | false => rfl
      | true =>
        refine absurd h0 (mid_alone ho x ?_)
        rw [← List.takeWhile_append_dropWhile (p := fun x => decide (ordF x e ≤ 0)) (l := H), List.mem_append] at hx
        exact hx
    have f2 : homesOkF R (homePut H e) = false := by
      cases ho : homesOkF R (homePut H e) with
      | false => rfl
      | true =>
        refine absurd h0 (mid_alone ho x ?_)
        rw [← List.takeWhile_append_dropWhile (p := fun x => decide (ordF x e < 0)) (l := H), List.mem_append] at hx
        exact hx
    rw [f1, f2]
    exact ⟨rfl, fun h => by cases h⟩
theorem hp_one {W : World} {g : Nat} {e : Ent} (h : W.heap[g]? = some (.cells #[.int .i64 e.1, .int .i64 e.2.1, .int .i64 e.2.2] 83 (0, 0))) : EntsAt W (.slice (some ⟨g, 0, none⟩) 1 1) [e] := by
  obtain ⟨a, b, c⟩ := cells3_at h
  refine ⟨_, 1, rfl, Nat.le_refl _, by decide, .inr ⟨g, 0, rfl, heap_lt h, fun i hi => ?_⟩⟩
  obtain rfl : i = 0 := by simp at hi; omega
  exact ⟨a, b, c⟩
set_option maxHeartbeats 16000000 in
theorem specHome_any (rv v : Value) (R : List (List Int)) (H : List Ent) (f b z : Int) (w : World) (hR : RowsAt w rv R) (hH : EntsAt w v H) (hl : H.length ≤ 1000) :
    Calls Tryz.prog 45 #[.agg #[rv, v], .agg #[.int .i64 f, .int .i64 b], .int .i64 z] w fun e w' => ∃ v', e = .returned (.tuple #[v', .bool (homesOkF R (homePut H (f, b, z)))]) ∧ EntsAt w' v' (hpS H (f, b, z)) ∧ Below w.heap.size w w' := by
  obtain ⟨ra, rc, rfl, _, _⟩ := hR.form
  obtain ⟨ha, hc, rfl, _, _⟩ := hH.form
  obtain ⟨n, hn⟩ : ∃ n, H.length = n := ⟨_, rfl⟩
  obtain ⟨rn, hrn⟩ : ∃ rn, R.length = rn := ⟨_, rfl⟩
  rw [hn] at hl hH ⊢
  rw [hrn] at hR ⊢
  obtain ⟨W0, hW0⟩ : ∃ W0, (w.alloc (.cells #[.slice ra rn rc, .slice ha n hc] 43)).alloc (.cells #[.int .i64 f, .int .i64 b] 66) = W0 := ⟨_, rfl⟩
  have hs0 : W0.heap.size = w.heap.size + 2 := by rw [← hW0]; simp
  have hb0 : Below w.heap.size w W0 := by rw [← hW0]; repeat (first | exact Below.refl _ _ | assumption | refine Below.drew ?_ | refine belowDrewN ?_ _ | refine Below.alloc ?_ (by first | exact Nat.le_refl _ | omega | (simp; done) | (simp; omega)) _ | refine Below.setCell ?_ (by first | exact Nat.le_refl _ | omega | (simp; done) | (simp; omega)) _)
  have hc0 : W0.cell? ⟨w.heap.size, 0, none⟩ = some (.slice ra rn rc) ∧ W0.cell? ⟨w.heap.size, 1, none⟩ = some (.slice ha n hc) ∧ W0.cell? ⟨w.heap.size + 1, 0, none⟩ = some (.int .i64 f) ∧ W0.cell? ⟨w.heap.size + 1, 1, none⟩ = some (.int .i64 b) := by
    rw [← hW0]; refine ⟨?_, ?_, ?_, ?_⟩ <;> simp
  have hcl : ∀ W, Below (w.heap.size + 2) W0 W → W.cell? ⟨w.heap.size, 0, none⟩ = some (.slice ra rn rc) ∧ W.cell? ⟨w.heap.size, 1, none⟩ = some (.slice ha n hc) ∧ W.cell? ⟨w.heap.size + 1, 0, none⟩ = some (.int .i64 f) ∧ W.cell? ⟨w.heap.size + 1, 1, none⟩ = some (.int .i64 b) ∧ Below w.heap.size w W ∧ w.heap.size + 2 ≤ W.heap.size := fun W hB => by
    obtain ⟨k0, k1, k2, k3⟩ := hc0
    exact ⟨(hB.cell (p := ⟨w.heap.size, 0, none⟩) (by show w.heap.size < _; omega)).trans k0, (hB.cell (p := ⟨w.heap.size, 1, none⟩) (by show w.heap.size < _; omega)).trans k1, (hB.cell (p := ⟨w.heap.size + 1, 0, none⟩) (by show w.heap.size + 1 < _; omega)).trans k2, (hB.cell (p := ⟨w.heap.size + 1, 1, none⟩) (by show w.heap.size + 1 < _; omega)).trans k3, hb0.trans (hB.mono (by omega)), by have := hB.size; omega⟩
  have hz := HomNew.zero W0
  rw [hs0] at hz
  have HCL := Lib.hid hcl
  have HZ := Lib.hid hz
  have HN := Lib.hid hn
  have HRR := Lib.hid hR
  have HHH := Lib.hid hH
  have HS0 := Lib.hid hs0
  have HAL := hp_all H (f, b, z)
  rw [hn] at HAL
  have HALL := Lib.hid HAL
  have hok := (hp_ok (R := R) (H := H) (e := (f, b, z))).1
  have HOK := Lib.hid hok
  have hBZ : Hid (Below (w.heap.size + 2) W0 (W0.alloc (.cells #[] 83))) := Lib.hid (Below.alloc (Below.refl _ _) (by omega) _)
  clear hR hH hn hrn hs0 hb0 hc0 hcl hz HAL hok
  go_enter Tryz.func45, Tryz.ntmps45
  go_wp2_with fail
  go_loopg [8, 9, 10] n (fun gk s8 s9 s10 wr => ∃ (j : Nat), s10 = .int .i64 (j : Int) ∧ j + gk = n ∧ s9 = .bool (hpTo H (f, b, z) j).2 ∧ Hid (HomNew wr (w.heap.size + 2) s8 (hpTo H (f, b, z) j).1) ∧ Hid (Below (w.heap.size + 2) W0 wr))
  case atStart =>
    refine ⟨0, rfl, by omega, rfl, ?_, hBZ⟩
    rw [HS0.out]
    exact HZ
  case round =>
    clear HZ hBZ
    obtain ⟨j, rfl, hj, rfl, O, B⟩ := hrel
    obtain ⟨k0, k1, k2, k3, bw, zs⟩ := HCL.out wr B.out
    have hlen := hpTo_len (H := H) (e := (f, b, z)) j (by rw [HN.out]; omega)
    obtain ⟨oa, oc, rfl, _, _⟩ := O.out.form
    by_cases hjn : j < n
    · have hjI : (j : Int) < (n : Int) := by omega
      have j0 : (0 : Int) ≤ (j : Int) := by omega
      have hsucc := hpTo_succ (H := H) (e := (f, b, z)) (j := j) (by rw [HN.out]; exact hjn)
      obtain ⟨eb, eoff, rfl, heb, xw0, xw1, xw2⟩ := HHH.out.get j hjn
      obtain ⟨ent, hent⟩ : ∃ e, H.getD j (0, 0, 0) = e := ⟨_, rfl⟩
      rw [hent] at xw0 xw1 xw2 hsucc
      obtain ⟨X, hX⟩ : ∃ X, hpTo H (f, b, z) j = X := ⟨_, rfl⟩
      rw [hX] at O hlen hsucc ⊢
      obtain ⟨out, d⟩ := X
      obtain ⟨N, hNN⟩ : ∃ N, out.length = N := ⟨_, rfl⟩
      simp only at O hlen ⊢
      rw [hNN] at hlen ⊢
      have O2 : Hid (HomNew wr (w.heap.size + 2) (.slice oa N oc) out) := Lib.hid (by have := O.out; rw [hNN] at this; exact this)
      have HNN := Lib.hid hNN
      unfold hpStep at hsucc
      obtain ⟨ex, ey, ez⟩ := ent
      simp only at xw0 xw1 xw2
      have hcx : ∀ W, Below (w.heap.size + 2) W0 W → W.cell? ⟨eb, eoff + j * 3, none⟩ = some (.int .i64 ex) ∧ W.cell? ⟨eb, eoff + j * 3 + 1, none⟩ = some (.int .i64 ey) ∧ W.cell? ⟨eb, eoff + j * 3 + 2, none⟩ = some (.int .i64 ez) := fun W hW => by
        obtain ⟨_, _, _, _, hb, _⟩ := HCL.out W hW
        exact ⟨(hb.cell (p := ⟨eb, eoff + j * 3, none⟩) heb).trans xw0, (hb.cell (p := ⟨eb, eoff + j * 3 + 1, none⟩) heb).trans xw1, (hb.cell (p := ⟨eb, eoff + j * 3 + 2, none⟩) heb).trans xw2⟩
      obtain ⟨x0, x1, x2⟩ := hcx wr B.out
      have HCX := Lib.hid hcx
      clear hcx xw0 xw1 xw2
      have hNl : N ≤ 1001 := by omega
      clear O hNN hent hX hlen
      cases d with
      | true =>
        rw [if_neg (by simp)] at hsucc
        have HSC := Lib.hid hsucc
        have HJ := Lib.hid hj
        clear hsucc hj
        go_wp2_with fail
        refine wp_region_noPanic ?_
        refine wp_region_held_drew (S := (fun W => W.cell? ⟨w.heap.size, 1, none⟩ = some (.slice (some ⟨eb, eoff, none⟩) n hc))) (by kernel_rfl) (by exact k1) (fun hHeld => ?_)
        refine tkT (i := 0) (h := ?_)
        (try simp only [Act.put, pB, pC, pD])
        refine tkT (i := 1) (h := ?_)
        (try simp only [Act.put, pB, pC, pD])
        refine tkT (i := 2) (h := ?_)
        (try simp only [Act.put, pB, pC, pD])
        refine tkS (i := 3) (h := ?_)
        (try simp only [Act.put, pB, pC, pD])
        refine tkS (i := 4) (h := ?_)
        (try simp only [Act.put, pB, pC, pD])
        refine tkS (i := 5) (h := ?_)
        (try simp only [Act.put, pB, pC, pD])
        refine tkS (i := 6) (h := ?_)
        (try simp only [Act.put, pB, pC, pD])
        refine tkS (i := 7) (h := ?_)
        (try simp only [Act.put, pB, pC, pD])
        refine tkS (i := 8) (h := ?_)
        (try simp only [Act.put, pB, pC, pD])
        refine tkS (i := 9) (h := ?_)
        (try simp only [Act.put, pB, pC, pD])
        refine tkS (i := 10) (h := ?_)
        (try simp only [Act.put, pB, pC, pD])
        refine tkS (i := 11) (h := ?_)
        (try simp only [Act.put, pB, pC, pD])
        refine tkT (i := 12) (h := ?_)
        (try simp only [Act.put, pB, pC, pD])
        refine wpAnyH_done (by kernel_rfl) ?_ _
        refine NoPanic.normal ?_
        go_wp2_with (at_builtin; go_loud (refine wpList_append_homs rfl (.tmp 38) (.tmp 44) rfl (w.heap.size + 2) _ _ out [(ex, ey, ez)] (N + 1) (by rw [HNN.out]; rfl) rfl (O2.out.below (by repeat (first | exact Below.refl _ _ | assumption | refine Below.drew ?_ | refine belowDrewN ?_ _ | refine Below.alloc ?_ (by first | exact Nat.le_refl _ | omega | (simp; done) | (simp; omega)) _ | refine Below.setCell ?_ (by first | exact Nat.le_refl _ | omega | (simp; done) | (simp; omega)) _))) rfl (hp_one (by first | exact heap_alloc_new _ _)) (by omega) (by simp; omega) ?_); intro ad4 c4 w4 hE4 hb4 hs4; have E4 := Lib.hid hE4; have B4 : Hid (Below (w.heap.size + 2) W0 w4) := Lib.hid (Below.trans (by have := B.out; repeat (first | exact Below.refl _ _ | assumption | refine Below.drew ?_ | refine belowDrewN ?_ _ | refine Below.alloc ?_ (by first | exact Nat.le_refl _ | omega | (simp; done) | (simp; omega)) _ | refine Below.setCell ?_ (by first | exact Nat.le_refl _ | omega | (simp; done) | (simp; omega)) _)) hb4); clear hE4 hb4)
        go_roundg (n - (j + 1))
        case measure => have := HJ.out; omega
        case rel => exact ⟨j + 1, by go_num, by omega, by rw [HSC.out], by rw [HSC.out]; exact E4, B4⟩
      | false =>
        have hcm := fun W => l1Cmp_any ex ey f b W
        have hcc : ordF (ex, ey, ez) (f, b, z) = rcmpF ex ey f b := rfl
        rw [hcc] at hsucc
        obtain ⟨c, hc2⟩ : ∃ c, rcmpF ex ey f b = c := ⟨_, rfl⟩
        rw [hc2] at hsucc hcm
        have HCM := Lib.hid hcm
        have HJ := Lib.hid hj
        have hbr : eb < wr.heap.size := by have := bw.size; omega
        clear hcm hcc hc2 hj
        by_cases hpos : 0 < c
        · rw [if_pos ⟨rfl, hpos⟩] at hsucc
          have HSC := Lib.hid hsucc
          have hd : decide (c > 0) = true := decide_eq_true hpos
          clear hsucc hpos
          go_wp2_with fail
          refine wp_region_noPanic ?_
          refine wp_region_held_drew (S := (fun W => W.cell? ⟨w.heap.size, 1, none⟩ = some (.slice (some ⟨eb, eoff, none⟩) n hc) ∧ W.cell? ⟨eb, eoff + j * 3, none⟩ = some (.int .i64 ex) ∧ W.cell? ⟨eb, eoff + j * 3 + 1, none⟩ = some (.int .i64 ey) ∧ W.cell? ⟨w.heap.size + 1, 0, none⟩ = some (.int .i64 f) ∧ W.cell? ⟨w.heap.size + 1, 1, none⟩ = some (.int .i64 b))) (by kernel_rfl) (by exact ⟨k1, x0, x1, k2, k3⟩) (fun hHeld => ?_)
          refine tkT (i := 0) (h := ?_)
          (try simp only [Act.put, pB, pC, pD])
          refine tkT (i := 1) (h := ?_)
          (try simp only [Act.put, pB, pC, pD])
          refine tkT (i := 2) (h := ?_)
          (try simp only [Act.put, pB, pC, pD])
          refine tkT (i := 3) (h := ?_)
          (try simp only [Act.put, pB, pC, pD])
          refine tkT (i := 4) (h := ?_)
          (try simp only [Act.put, pB, pC, pD])
          refine tkT (i := 5) (h := ?_)
          (try simp only [Act.put, pB, pC, pD])
          refine tkT (i := 6) (h := ?_)
          (try simp only [Act.put, pB, pC, pD])
          refine tkT (i := 7) (h := ?_)
          (try simp only [Act.put, pB, pC, pD])
          refine tkT (i := 8) (h := ?_)
          (try simp only [Act.put, pB, pC, pD])
          refine tkT (i := 9) (h := ?_)
          (try simp only [Act.put, pB, pC, pD])
          refine wpAnyH_ready (rs := [10]) (by kernel_rfl) (by simp) ?_
          refine AllReadyH.cons (by (simp only [List.getElem?_toArray, List.getElem?_cons_succ, List.getElem?_cons_zero]) <;> rfl) (fun K hK => ?_) AllReadyH.nil
          go_simp
          (go_at_call 75; refine (HCM.out _).mono ?_; rintro r w3 ⟨rfl, hb3⟩; have hbr3 : Below wr.heap.size wr w3 := (by refine Below.trans ?_ (hb3.mono (by first | exact Nat.le_refl _ | omega | (simp; done) | (simp; omega))); repeat (first | exact Below.refl _ _ | assumption | refine Below.drew ?_ | refine belowDrewN ?_ _ | refine Below.alloc ?_ (by first | exact Nat.le_refl _ | omega | (simp; done) | (simp; omega)) _ | refine Below.setCell ?_ (by first | exact Nat.le_refl _ | omega | (simp; done) | (simp; omega)) _)); have HBR := Lib.hid hbr3; have B3 : Hid (Below (w.heap.size + 2) W0 w3) := Lib.hid (B.out.trans (hbr3.mono zs)); clear hb3 hbr3; obtain ⟨u0, u1, u2, u3, _, _⟩ := HCL.out w3 B3.out; obtain ⟨t0, t1, t2⟩ := HCX.out w3 B3.out)
          refine hK.out _ _ (by exact ⟨u1, t0, t1, u2, u3⟩) (fun hHeld => ?_)
          (try simp only [Act.put, pB, pC, pD])
          refine tkT (i := 11) (h := ?_)
          (try simp only [Act.put, pB, pC, pD])
          refine tkT (i := 12) (h := ?_)
          (try simp only [Act.put, pB, pC, pD])
          refine wpAnyH_done (by kernel_rfl) ?_ _
          refine NoPanic.normal ?_
          obtain ⟨p0, p1, p2, p3, bw3, zs3⟩ := HCL.out w3 B3.out
          obtain ⟨y0, y1, y2⟩ := HCX.out w3 B3.out
          clear x0 x1 x2 k0 k1 k2 k3
          go_wp2_with (first
            | (at_builtin; (refine wpList_append_homs rfl (.tmp 32) (.tmp 36) rfl (w.heap.size + 2) _ _ out [(f, b, z)] (N + 1) (by rw [HNN.out]; rfl) rfl ((O2.out.below HBR.out).below (by repeat (first | exact Below.refl _ _ | assumption | refine Below.drew ?_ | refine belowDrewN ?_ _ | refine Below.alloc ?_ (by first | exact Nat.le_refl _ | omega | (simp; done) | (simp; omega)) _ | refine Below.setCell ?_ (by first | exact Nat.le_refl _ | omega | (simp; done) | (simp; omega)) _))) rfl (hp_one (by first | exact heap_alloc_new _ _)) (by omega) (by simp; omega) ?_); intro ad4 c4 w4 hE4 hb4 hs4; have E4 := Lib.hid hE4; have B4 : Hid (Below (w.heap.size + 2) W0 w4) := Lib.hid (Below.trans (by have := B3.out; repeat (first | exact Below.refl _ _ | assumption | refine Below.drew ?_ | refine belowDrewN ?_ _ | refine Below.alloc ?_ (by first | exact Nat.le_refl _ | omega | (simp; done) | (simp; omega)) _ | refine Below.setCell ?_ (by first | exact Nat.le_refl _ | omega | (simp; done) | (simp; omega)) _)) hb4); clear hE4 hb4; obtain ⟨q0, q1, q2, q3, bw4, zs4⟩ := HCL.out w4 B4.out; obtain ⟨v0, v1, v2⟩ := HCX.out w4 B4.out)
            | (at_builtin; (refine wpList_append_homs rfl (.tmp 38) (.tmp 44) rfl (w.heap.size + 2) _ _ (out ++ [(f, b, z)]) [(ex, ey, ez)] (N + 2) (by simp; rw [HNN.out]) rfl (E4.out.below (by repeat (first | exact Below.refl _ _ | assumption | refine Below.drew ?_ | refine belowDrewN ?_ _ | refine Below.alloc ?_ (by first | exact Nat.le_refl _ | omega | (simp; done) | (simp; omega)) _ | refine Below.setCell ?_ (by first | exact Nat.le_refl _ | omega | (simp; done) | (simp; omega)) _))) rfl (hp_one (by first | exact heap_alloc_new _ _)) (by omega) (by simp; omega) ?_); intro ad5 c5 w5 hE5 hb5 hs5; have E5 := Lib.hid hE5; have B5 : Hid (Below (w.heap.size + 2) W0 w5) := Lib.hid (Below.trans (by have := B4.out; repeat (first | exact Below.refl _ _ | assumption | refine Below.drew ?_ | refine belowDrewN ?_ _ | refine Below.alloc ?_ (by first | exact Nat.le_refl _ | omega | (simp; done) | (simp; omega)) _ | refine Below.setCell ?_ (by first | exact Nat.le_refl _ | omega | (simp; done) | (simp; omega)) _)) hb5); clear hE5 hb5))
          go_roundg (n - (j + 1))
          case measure => have := HJ.out; omega
          case rel => exact ⟨j + 1, by go_num, by omega, by rw [HSC.out], by rw [HSC.out]; exact E5, B5⟩
        · rw [if_neg (fun h => hpos h.2)] at hsucc
          have HSC := Lib.hid hsucc
          have hd : decide (c > 0) = false := decide_eq_false hpos
          clear hsucc hpos
          go_wp2_with fail
          refine wp_region_noPanic ?_
          refine wp_region_held_drew (S := (fun W => W.cell? ⟨w.heap.size, 1, none⟩ = some (.slice (some ⟨eb, eoff, none⟩) n hc) ∧ W.cell? ⟨eb, eoff + j * 3, none⟩ = some (.int .i64 ex) ∧ W.cell? ⟨eb, eoff + j * 3 + 1, none⟩ = some (.int .i64 ey) ∧ W.cell? ⟨w.heap.size + 1, 0, none⟩ = some (.int .i64 f) ∧ W.cell? ⟨w.heap.size + 1, 1, none⟩ = some (.int .i64 b))) (by kernel_rfl) (by exact ⟨k1, x0, x1, k2, k3⟩) (fun hHeld => ?_)
          refine tkT (i := 0) (h := ?_)
          (try simp only [Act.put, pB, pC, pD])
          refine tkT (i := 1) (h := ?_)
          (try simp only [Act.put, pB, pC, pD])
          refine tkT (i := 2) (h := ?_)
          (try simp only [Act.put, pB, pC, pD])
          refine tkT (i := 3) (h := ?_)
          (try simp only [Act.put, pB, pC, pD])
          refine tkT (i := 4) (h := ?_)
          (try simp only [Act.put, pB, pC, pD])
          refine tkT (i := 5) (h := ?_)
          (try simp only [Act.put, pB, pC, pD])
          refine tkT (i := 6) (h := ?_)
          (try simp only [Act.put, pB, pC, pD])
          refine tkT (i := 7) (h := ?_)
          (try simp only [Act.put, pB, pC, pD])
          refine tkT (i := 8) (h := ?_)
          (try simp only [Act.put, pB, pC, pD])
          refine tkT (i := 9) (h := ?_)
          (try simp only [Act.put, pB, pC, pD])
          refine wpAnyH_ready (rs := [10]) (by kernel_rfl) (by simp) ?_
          refine AllReadyH.cons (by (simp only [List.getElem?_toArray, List.getElem?_cons_succ, List.getElem?_cons_zero]) <;> rfl) (fun K hK => ?_) AllReadyH.nil
          go_simp
          (go_at_call 75; refine (HCM.out _).mono ?_; rintro r w3 ⟨rfl, hb3⟩; have hbr3 : Below wr.heap.size wr w3 := (by refine Below.trans ?_ (hb3.mono (by first | exact Nat.le_refl _ | omega | (simp; done) | (simp; omega))); repeat (first | exact Below.refl _ _ | assumption | refine Below.drew ?_ | refine belowDrewN ?_ _ | refine Below.alloc ?_ (by first | exact Nat.le_refl _ | omega | (simp; done) | (simp; omega)) _ | refine Below.setCell ?_ (by first | exact Nat.le_refl _ | omega | (simp; done) | (simp; omega)) _)); have HBR := Lib.hid hbr3; have B3 : Hid (Below (w.heap.size + 2) W0 w3) := Lib.hid (B.out.trans (hbr3.mono zs)); clear hb3 hbr3; obtain ⟨u0, u1, u2, u3, _, _⟩ := HCL.out w3 B3.out; obtain ⟨t0, t1, t2⟩ := HCX.out w3 B3.out)
          refine hK.out _ _ (by exact ⟨u1, t0, t1, u2, u3⟩) (fun hHeld => ?_)
          (try simp only [Act.put, pB, pC, pD])
          refine tkT (i := 11) (h := ?_)
          (try simp only [Act.put, pB, pC, pD])
          refine tkT (i := 12) (h := ?_)
          (try simp only [Act.put, pB, pC, pD])
          refine wpAnyH_done (by kernel_rfl) ?_ _
          refine NoPanic.normal ?_
          obtain ⟨p0, p1, p2, p3, bw3, zs3⟩ := HCL.out w3 B3.out
          obtain ⟨y0, y1, y2⟩ := HCX.out w3 B3.out
          clear x0 x1 x2 k0 k1 k2 k3
          go_wp2_with (at_builtin; (refine wpList_append_homs rfl (.tmp 38) (.tmp 44) rfl (w.heap.size + 2) _ _ out [(ex, ey, ez)] (N + 1) (by rw [HNN.out]; rfl) rfl ((O2.out.below HBR.out).below (by repeat (first | exact Below.refl _ _ | assumption | refine Below.drew ?_ | refine belowDrewN ?_ _ | refine Below.alloc ?_ (by first | exact Nat.le_refl _ | omega | (simp; done) | (simp; omega)) _ | refine Below.setCell ?_ (by first | exact Nat.le_refl _ | omega | (simp; done) | (simp; omega)) _))) rfl (hp_one (by first | exact heap_alloc_new _ _)) (by omega) (by simp; omega) ?_); intro ad4 c4 w4 hE4 hb4 hs4; have E4 := Lib.hid hE4; have B4 : Hid (Below (w.heap.size + 2) W0 w4) := Lib.hid (Below.trans (by have := B3.out; repeat (first | exact Below.refl _ _ | assumption | refine Below.drew ?_ | refine belowDrewN ?_ _ | refine Below.alloc ?_ (by first | exact Nat.le_refl _ | omega | (simp; done) | (simp; omega)) _ | refine Below.setCell ?_ (by first | exact Nat.le_refl _ | omega | (simp; done) | (simp; omega)) _)) hb4); clear hE4 hb4)
          go_roundg (n - (j + 1))
          case measure => have := HJ.out; omega
          case rel => exact ⟨j + 1, by go_num, by omega, by rw [HSC.out], by rw [HSC.out]; exact E4, B4⟩
    · obtain rfl : j = n := by omega
      obtain ⟨X, hX⟩ : ∃ X, hpTo H (f, b, z) j = X := ⟨_, rfl⟩
      have hall := HALL.out
      rw [hX] at O hlen hall ⊢
      obtain ⟨out, d⟩ := X
      obtain ⟨N, hNN⟩ : ∃ N, out.length = N := ⟨_, rfl⟩
      simp only at O hlen hall ⊢
      rw [hNN] at hlen ⊢
      have O2 : Hid (HomNew wr (w.heap.size + 2) (.slice oa N oc) out) := Lib.hid (by have := O.out; rw [hNN] at this; exact this)
      have HNN := Lib.hid hNN
      have hNl : N ≤ 1001 := by omega
      clear O hNN hX hlen hj
      cases d with
      | true =>
        rw [if_pos rfl] at hall
        have HA := Lib.hid hall
        have hHO := specHomesOk_any (.slice ra rn rc) (.slice oa N oc) R out wr (HRR.out.below bw) O2.out.ents
        rw [HA.out, HOK.out] at hHO
        have HHO := Lib.hid hHO
        clear hall hHO
        go_wp2_with fail
        refine HHO.out.mono ?_
        rintro e w5 ⟨rfl, hb5⟩
        have B5 : Hid (Below w.heap.size w w5) := Lib.hid (bw.trans (hb5.mono bw.size))
        have O5 := Lib.hid (O2.out.below hb5)
        clear hb5
        go_wp2_with fail
        refine bodyPost_ret (results_tmp2 rfl _ _ _) rfl ?_
        exact ⟨_, rfl, by have := O5.out.ents; rw [HA.out] at this; exact this, B5.out⟩
      | false =>
        rw [if_neg (by simp)] at hall
        have HA := Lib.hid hall
        clear hall
        go_wp2_with (at_builtin; (refine wpList_append_homs rfl (.tmp 48) (.tmp 52) rfl (w.heap.size + 2) _ _ out [(f, b, z)] (N + 1) (by rw [HNN.out]; rfl) rfl (O2.out.below (by repeat (first | exact Below.refl _ _ | assumption | refine Below.drew ?_ | refine belowDrewN ?_ _ | refine Below.alloc ?_ (by first | exact Nat.le_refl _ | omega | (simp; done) | (simp; omega)) _ | refine Below.setCell ?_ (by first | exact Nat.le_refl _ | omega | (simp; done) | (simp; omega)) _))) rfl (hp_one (by first | exact heap_alloc_new _ _)) (by omega) (by simp; omega) ?_); intro ad4 c4 w4 hE4 hb4 hs4; have E4 := Lib.hid hE4; have B4 : Hid (Below (w.heap.size + 2) W0 w4) := Lib.hid (Below.trans (by have := B.out; repeat (first | exact Below.refl _ _ | assumption | refine Below.drew ?_ | refine belowDrewN ?_ _ | refine Below.alloc ?_ (by first | exact Nat.le_refl _ | omega | (simp; done) | (simp; omega)) _ | refine Below.setCell ?_ (by first | exact Nat.le_refl _ | omega | (simp; done) | (simp; omega)) _)) hb4); clear hE4 hb4; obtain ⟨q0, q1, q2, q3, bw4, zs4⟩ := HCL.out w4 B4.out)
        have hHO := specHomesOk_any (.slice ra rn rc) (.slice ad4 (N + 1) c4) R (out ++ [(f, b, z)]) w4 (HRR.out.below bw4) E4.out.ents
        rw [HA.out, HOK.out] at hHO
        refine hHO.mono ?_
        rintro e w5 ⟨rfl, hb5⟩
        have B5 : Hid (Below w.heap.size w w5) := Lib.hid (bw4.trans (hb5.mono bw4.size))
        have O5 := Lib.hid (E4.out.below hb5)
        clear hb5 hHO
        go_wp2_with fail
        refine bodyPost_ret (results_tmp2 rfl _ _ _) rfl ?_
        exact ⟨_, rfl, by have := O5.out.ents; rw [HA.out] at this; exact this, B5.out⟩
end Go.Proofs.YtnecdeaikmhanaaGreatDoor
