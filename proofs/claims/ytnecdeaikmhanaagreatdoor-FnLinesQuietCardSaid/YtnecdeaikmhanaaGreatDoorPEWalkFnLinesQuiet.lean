/- The walk of a law. -/
import Derived.Test.YtnecdeaikmhanaaGreatDoorPE0
import Derived.Test.YtnecdeaikmhanaaGreatDoorPE1
import Derived.Test.YtnecdeaikmhanaaGreatDoorPE2
import Derived.Test.YtnecdeaikmhanaaGreatDoorPE3
import Derived.Test.YtnecdeaikmhanaaGreatDoorPE4
import Derived.Test.YtnecdeaikmhanaaGreatDoorPE5
import Derived.Test.YtnecdeaikmhanaaGreatDoorPE6
import Derived.Test.YtnecdeaikmhanaaGreatDoorPE7
import Derived.Test.YtnecdeaikmhanaaGreatDoorPE8
import Derived.Test.YtnecdeaikmhanaaGreatDoorPE9
import Derived.Test.YtnecdeaikmhanaaGreatDoorPE10
import Derived.Test.YtnecdeaikmhanaaGreatDoorPE11
import Derived.Test.YtnecdeaikmhanaaGreatDoorPE12
import Derived.Test.YtnecdeaikmhanaaGreatDoorPE13
import Derived.Test.YtnecdeaikmhanaaGreatDoorPE14
import Derived.Test.YtnecdeaikmhanaaGreatDoorPE15
import Derived.Test.YtnecdeaikmhanaaGreatDoorPE16
import Derived.Test.YtnecdeaikmhanaaGreatDoorPE17
import Derived.Test.YtnecdeaikmhanaaGreatDoorPE18
import Derived.Test.YtnecdeaikmhanaaGreatDoorPE19
import Derived.Test.YtnecdeaikmhanaaGreatDoorPE20
namespace Go.Proofs.YtnecdeaikmhanaaGreatDoor
open Go.RowKit
set_option linter.unusedVariables false
set_option maxRecDepth 100000
theorem run_is (a : Bs) (W : World) (EW : EnvOk W) : Calls Tryz.prog 13 #[.string ⟨a.toArray⟩] W fun e w' => e = .returned (.string ⟨(linesF a).toArray⟩) ∧ Below W.heap.size W w' := implLinesRun_any a W EW
theorem lines_len (l : Bs) (h : l.length ≤ 500) : (linesF l).length ≤ 100400 := by
  unfold linesF
  rw [if_neg (by omega)]
  have h1 := run_len (cutC 10 l).dropLast
  have h2 := cut_count 10 l
  have h3 := (decF_len (runF (cutC 10 l).dropLast).1.homes.length).2
  rw [List.length_dropLast] at h1
  simp only [List.length_append, List.length_singleton]
  omega
set_option maxHeartbeats 16000000 in
theorem fnLinesQuiet_walk (a : Option Addr) (len cap : Nat) (zs : List Int) (w : World) (h : IsRow .u8 w a len cap zs) (E : EnvOk w) :
    Calls Tryz.prog 11 #[.slice a len cap] w fun e w' => e = .returned (.bool true) ∧ Below w.heap.size w w' := by
  obtain ⟨hm, hc⟩ := h.bounds
  unfold maxLen at hc
  have H := Lib.hid h
  have HE := Lib.hid E
  clear h E
  go_enter Tryz.func11, Tryz.ntmps11
  by_cases hbig : 1048576 < len
  · go_wp2_with fail
    go_ret
    exact ⟨rfl, Below.refl _ _⟩
  · go_wp2_with fail
    refine (drawLinesRun_any _ _ _ zs _ H.out).mono ?_
    rintro e w1 ⟨l, rfl, hwh, hln, hb1⟩
    have E1 := Lib.hid (HE.out.next hb1)
    have HB1 := Lib.hid hb1
    have HWH := Lib.hid hwh
    have HLN := Lib.hid hln
    have himp := implLinesRun_any l w1 E1.out
    have hspc := fun W => specLinesRun_any l W
    obtain ⟨n, hn⟩ : ∃ n, l.length = n := ⟨_, rfl⟩
    have hTs : (⟨l.toArray⟩ : ByteArray).size = n := by rw [st_size, hn]
    obtain ⟨T, hT⟩ : ∃ T : ByteArray, (⟨l.toArray⟩ : ByteArray) = T := ⟨_, rfl⟩
    obtain ⟨R, hR⟩ : ∃ R : ByteArray, (⟨(linesF l).toArray⟩ : ByteArray) = R := ⟨_, rfl⟩
    unfold stV at himp hspc ⊢
    rw [hT, hR] at himp hspc
    rw [hT] at hTs ⊢
    have HIM := Lib.hid himp
    have HSP := Lib.hid hspc
    have HT := Lib.hid hT
    have HR := Lib.hid hR
    have HN := Lib.hid hn
    have n9 : n ≤ 900 := by omega
    clear hwh hln hb1 himp hspc hT hR hn
    go_wp2_with fail
    refine HIM.out.mono ?_
    rintro e w2 ⟨rfl, hb2⟩
    have E2 := Lib.hid (E1.out.next hb2)
    have HB2 : Hid (Below w.heap.size w w2) := Lib.hid (HB1.out.trans (hb2.mono HB1.out.size))
    clear hb2 HIM E1 HB1
    go_wp2_with fail
    refine (HSP.out _).mono ?_
    rintro e w3 ⟨rfl, hb3⟩
    have E3 := Lib.hid (E2.out.next hb3)
    have HB3 : Hid (Below w.heap.size w w3) := Lib.hid (HB2.out.trans (hb3.mono HB2.out.size))
    clear hb3 E2 HB2
    by_cases h5 : 460 < n
    · have hd : (460 : Int) < (n : Int) := by omega
      go_wp2_with fail
      refine (HSP.out _).mono ?_
      rintro e w4 ⟨rfl, hb4⟩
      have B4 := Lib.hid hb4
      clear hb4
      go_wp2_with fail
      go_ret
      exact ⟨rfl, HB3.out.trans (B4.out.mono HB3.out.size)⟩
    · have hd : ¬ (460 : Int) < (n : Int) := by omega
      have hl4 : l.length ≤ 460 := by rw [HN.out]; omega
      have c1 := fun W (hW : Below w3.heap.size w3 W) => run_is (l ++ tWhat) W (E3.out.next hW)
      have c2 := fun W (hW : Below w3.heap.size w3 W) => run_is (l ++ tAll) W (E3.out.next hW)
      have e1 := add_is l tWhat (by simp [tWhat]; omega)
      have e2 := add_is l tAll (by simp [tAll]; omega)
      obtain ⟨S1, hS1⟩ : ∃ S : ByteArray, ⟨(l ++ tWhat).toArray⟩ = S := ⟨_, rfl⟩
      obtain ⟨S2, hS2⟩ : ∃ S : ByteArray, ⟨(l ++ tAll).toArray⟩ = S := ⟨_, rfl⟩
      obtain ⟨Q1, hQ1⟩ : ∃ S : ByteArray, ⟨(linesF (l ++ tWhat)).toArray⟩ = S := ⟨_, rfl⟩
      obtain ⟨Q2, hQ2⟩ : ∃ S : ByteArray, ⟨(linesF (l ++ tAll)).toArray⟩ = S := ⟨_, rfl⟩
      rw [HT.out, hS1] at e1
      rw [HT.out, hS2] at e2
      rw [hS1, hQ1] at c1
      rw [hS2, hQ2] at c2
      rw [show (⟨tWhat.toArray⟩ : ByteArray) = ⟨#[119, 104, 97, 116, 10]⟩ from rfl] at e1
      rw [show (⟨tAll.toArray⟩ : ByteArray) = ⟨#[119, 97, 121, 115, 32, 49, 10, 115, 101, 110, 100, 32, 50, 32, 57, 10, 102, 114, 101, 101, 10, 119, 104, 97, 116, 10]⟩ from rfl] at e2
      have C1 := Lib.hid c1
      have C2 := Lib.hid c2
      have HQ1 := Lib.hid hQ1
      have HQ2 := Lib.hid hQ2
      have HL4 := Lib.hid hl4
      clear c1 c2 hS1 hS2 hQ1 hQ2 hl4
      go_wp2_with fail
      refine (C1.out _ (Below.refl _ _)).mono ?_
      rintro e x1 ⟨rfl, hb⟩
      have B1 := Lib.hid hb
      clear hb
      go_wp2_with fail
      refine (C2.out _ B1.out).mono ?_
      rintro e x2 ⟨rfl, hb⟩
      have B2 : Hid (Below w3.heap.size w3 x2) := Lib.hid (B1.out.trans (hb.mono B1.out.size))
      clear hb
      go_wp2_with fail
      obtain ⟨o, X, d, hX, f0, f1, f2⟩ := lines_quiet HWH.out HL4.out
      have hl1 := lines_len (l ++ tAll) (by have := HL4.out; simp [tAll]; omega)
      obtain ⟨m, hm⟩ : ∃ m, o.length = m := ⟨_, rfl⟩
      obtain ⟨x, hx⟩ : ∃ x, X.length = x := ⟨_, rfl⟩
      obtain ⟨r0, hr0⟩ : ∃ r, r = m + 2 := ⟨_, rfl⟩
      obtain ⟨s1, hs1⟩ : ∃ r, r = m + 7 := ⟨_, rfl⟩
      obtain ⟨s2, hs2⟩ : ∃ r, r = m + x + 7 := ⟨_, rfl⟩
      obtain ⟨k2, hk2⟩ : ∃ r, r = m + x := ⟨_, rfl⟩
      have z0 : R.size = r0 := by rw [← HR.out, st_size, f0, List.length_append, hm, hr0]; rfl
      have z1 : Q1.size = s1 := by rw [← HQ1.out, st_size, f1]; simp only [List.length_append, hm, hs1]; simp [sWhat]
      have z2 : Q2.size = s2 := by rw [← HQ2.out, st_size, f2]; simp only [List.length_append, hm, hx, hs2]; simp [sWhat]
      have hs2l : s2 ≤ 100400 := by rw [f2] at hl1; simp only [List.length_append, hm, hx] at hl1; simp [sWhat] at hl1; omega
      obtain ⟨D, hD⟩ : ∃ D : ByteArray, ⟨(sWhat ++ [d, 10]).toArray⟩ = D := ⟨_, rfl⟩
      have g1 : ∀ W, (Instr.slice 9 (.string Q1) (some (.int .i64 (m : Int))) none none).run Tryz.prog W = .ok (.string D) W := fun W => by
        have := slice_from Q1 (linesF (l ++ tWhat)) (by rw [← HQ1.out]) m (by rw [f1]; simp only [List.length_append, hm]; omega) W
        rw [this, ← hD, f1, List.append_assoc, ← hm, List.drop_left]
      have g2 : ∀ W, (Instr.slice 9 (.string Q2) (some (.int .i64 (k2 : Int))) none none).run Tryz.prog W = .ok (.string D) W := fun W => by
        have := slice_from Q2 (linesF (l ++ tAll)) (by rw [← HQ2.out]) k2 (by rw [f2]; simp only [List.length_append, hm, hx, hk2]; omega) W
        rw [this, ← hD, f2, List.append_assoc, hk2, ← hm, ← hx, ← List.length_append, List.drop_left]
      have w1' : IntKind.i64.wrap ((r0 : Int) + 5) = (s1 : Int) := by rw [show (r0 : Int) + 5 = (s1 : Int) by omega]; exact IntWalk.i64_in _ (by omega)
      have w2' : IntKind.i64.wrap ((s1 : Int) + 10) = (s1 : Int) + 10 := IntWalk.i64_in _ (by omega)
      have w3' : IntKind.i64.wrap ((s2 : Int) - 7) = (k2 : Int) := by rw [show (s2 : Int) - 7 = (k2 : Int) by omega]; exact IntWalk.i64_in _ (by omega)
      have w4' : IntKind.i64.wrap ((s1 : Int) - 7) = (m : Int) := by rw [show (s1 : Int) - 7 = (m : Int) by omega]; exact IntWalk.i64_in _ (by omega)
      have hgt : (s1 : Int) + 10 < (s2 : Int) := by omega
      have HB9 : Hid (Below w.heap.size w x2) := Lib.hid (HB3.out.trans (B2.out.mono HB3.out.size))
      clear hr0 hs1 hs2 hk2 hl1 f0 f1 f2 hm hx hX hD
      have hq1 : ((s1 : Int) == (s1 : Int)) = true := beq_self_eq_true _
      refine wp_region_noPanic ?_
      refine wp_region_held_drew (S := (fun _ => True)) (by kernel_rfl) (by trivial) (fun hHeld => ?_)
      refine wpAnyH_take (i := 0) (v := _) (by (simp only [List.getElem?_toArray, List.getElem?_cons_zero]) <;> rfl) (by kernel_rfl) (by kernel_rfl) (by kernel_rfl) (fun _ _ _ h => h) (Or.inl ⟨by rfl, fun w hSw => by ((try dsimp only at hSw); go_simp) <;> with_reducible rfl⟩) (by assumption) ?_
      (try simp only [Act.put, List.setIfInBounds_toArray, List.set_cons_zero, List.set_cons_succ])
      refine wpAnyH_take (i := 1) (v := _) (by (simp only [List.getElem?_toArray, List.getElem?_cons_succ, List.getElem?_cons_zero]) <;> rfl) (by kernel_rfl) (by kernel_rfl) (by kernel_rfl) (fun _ _ _ h => h) (Or.inl ⟨by rfl, fun w hSw => by ((try dsimp only at hSw); go_simp) <;> with_reducible rfl⟩) (by assumption) ?_
      (try simp only [Act.put, List.setIfInBounds_toArray, List.set_cons_zero, List.set_cons_succ])
      refine wpAnyH_take (i := 2) (v := _) (by (simp only [List.getElem?_toArray, List.getElem?_cons_succ, List.getElem?_cons_zero]) <;> rfl) (by kernel_rfl) (by kernel_rfl) (by kernel_rfl) (fun _ _ _ h => h) (Or.inl ⟨by rfl, fun w hSw => by ((try dsimp only at hSw); go_simp) <;> with_reducible rfl⟩) (by assumption) ?_
      (try simp only [Act.put, List.setIfInBounds_toArray, List.set_cons_zero, List.set_cons_succ])
      refine wpAnyH_take (i := 3) (v := _) (by (simp only [List.getElem?_toArray, List.getElem?_cons_succ, List.getElem?_cons_zero]) <;> rfl) (by kernel_rfl) (by kernel_rfl) (by kernel_rfl) (fun _ _ _ h => h) (Or.inl ⟨by rfl, fun w hSw => by ((try dsimp only at hSw); go_simp) <;> with_reducible rfl⟩) (by assumption) ?_
      (try simp only [Act.put, List.setIfInBounds_toArray, List.set_cons_zero, List.set_cons_succ])
      refine wpAnyH_take (i := 4) (v := _) (by (simp only [List.getElem?_toArray, List.getElem?_cons_succ, List.getElem?_cons_zero]) <;> rfl) (by kernel_rfl) (by kernel_rfl) (by kernel_rfl) (fun _ _ _ h => h) (Or.inl ⟨by rfl, fun w hSw => by ((try dsimp only at hSw); go_simp) <;> with_reducible rfl⟩) (by assumption) ?_
      (try simp only [Act.put, List.setIfInBounds_toArray, List.set_cons_zero, List.set_cons_succ])
      refine wpAnyH_take (i := 5) (v := _) (by (simp only [List.getElem?_toArray, List.getElem?_cons_succ, List.getElem?_cons_zero]) <;> rfl) (by kernel_rfl) (by kernel_rfl) (by kernel_rfl) (fun _ _ _ h => h) (Or.inl ⟨by rfl, fun w hSw => by ((try dsimp only at hSw); go_simp) <;> with_reducible rfl⟩) (by assumption) ?_
      (try simp only [Act.put, List.setIfInBounds_toArray, List.set_cons_zero, List.set_cons_succ])
      refine wpAnyH_take (i := 6) (v := _) (by (simp only [List.getElem?_toArray, List.getElem?_cons_succ, List.getElem?_cons_zero]) <;> rfl) (by kernel_rfl) (by kernel_rfl) (by kernel_rfl) (fun _ _ _ h => h) (Or.inl ⟨by rfl, fun w hSw => by ((try dsimp only at hSw); go_simp) <;> with_reducible rfl⟩) (by assumption) ?_
      (try simp only [Act.put, List.setIfInBounds_toArray, List.set_cons_zero, List.set_cons_succ])
      refine wpAnyH_take (i := 7) (v := _) (by (simp only [List.getElem?_toArray, List.getElem?_cons_succ, List.getElem?_cons_zero]) <;> rfl) (by kernel_rfl) (by kernel_rfl) (by kernel_rfl) (fun _ _ _ h => h) (Or.inl ⟨by rfl, fun w hSw => by ((try dsimp only at hSw); go_simp) <;> with_reducible rfl⟩) (by assumption) ?_
      (try simp only [Act.put, List.setIfInBounds_toArray, List.set_cons_zero, List.set_cons_succ])
      refine wpAnyH_take (i := 8) (v := _) (by (simp only [List.getElem?_toArray, List.getElem?_cons_succ, List.getElem?_cons_zero]) <;> rfl) (by kernel_rfl) (by kernel_rfl) (by kernel_rfl) (fun _ _ _ h => h) (Or.inl ⟨by rfl, fun w hSw => by ((try dsimp only at hSw); go_simp) <;> with_reducible rfl⟩) (by assumption) ?_
      (try simp only [Act.put, List.setIfInBounds_toArray, List.set_cons_zero, List.set_cons_succ])
      refine wpAnyH_take (i := 9) (v := _) (by (simp only [List.getElem?_toArray, List.getElem?_cons_succ, List.getElem?_cons_zero]) <;> rfl) (by kernel_rfl) (by kernel_rfl) (by kernel_rfl) (fun _ _ _ h => h) (Or.inl ⟨by rfl, fun w hSw => by ((try dsimp only at hSw); go_simp) <;> with_reducible rfl⟩) (by assumption) ?_
      (try simp only [Act.put, List.setIfInBounds_toArray, List.set_cons_zero, List.set_cons_succ])
      refine wpAnyH_take (i := 10) (v := _) (by (simp only [List.getElem?_toArray, List.getElem?_cons_succ, List.getElem?_cons_zero]) <;> rfl) (by kernel_rfl) (by kernel_rfl) (by kernel_rfl) (fun _ _ _ h => h) (Or.inl ⟨by rfl, fun w hSw => by ((try dsimp only at hSw); go_simp) <;> with_reducible rfl⟩) (by assumption) ?_
      (try simp only [Act.put, List.setIfInBounds_toArray, List.set_cons_zero, List.set_cons_succ])
      refine wpAnyH_take (i := 11) (v := _) (by (simp only [List.getElem?_toArray, List.getElem?_cons_succ, List.getElem?_cons_zero]) <;> rfl) (by kernel_rfl) (by kernel_rfl) (by kernel_rfl) (fun _ _ _ h => h) (Or.inl ⟨by rfl, fun w hSw => by ((try dsimp only at hSw); go_simp) <;> with_reducible rfl⟩) (by assumption) ?_
      (try simp only [Act.put, List.setIfInBounds_toArray, List.set_cons_zero, List.set_cons_succ])
      refine wpAnyH_take (i := 12) (v := _) (by (simp only [List.getElem?_toArray, List.getElem?_cons_succ, List.getElem?_cons_zero]) <;> rfl) (by kernel_rfl) (by kernel_rfl) (by kernel_rfl) (fun _ _ _ h => h) (Or.inl ⟨by rfl, fun w hSw => by ((try dsimp only at hSw); go_simp) <;> with_reducible rfl⟩) (by assumption) ?_
      (try simp only [Act.put, List.setIfInBounds_toArray, List.set_cons_zero, List.set_cons_succ])
      refine wpAnyH_take (i := 13) (v := _) (by (simp only [List.getElem?_toArray, List.getElem?_cons_succ, List.getElem?_cons_zero]) <;> rfl) (by kernel_rfl) (by kernel_rfl) (by kernel_rfl) (fun _ _ _ h => h) (Or.inl ⟨by rfl, fun w hSw => by ((try dsimp only at hSw); go_simp) <;> with_reducible rfl⟩) (by assumption) ?_
      (try simp only [Act.put, List.setIfInBounds_toArray, List.set_cons_zero, List.set_cons_succ])
      refine wpAnyH_take (i := 14) (v := _) (by (simp only [List.getElem?_toArray, List.getElem?_cons_succ, List.getElem?_cons_zero]) <;> rfl) (by kernel_rfl) (by kernel_rfl) (by kernel_rfl) (fun _ _ _ h => h) (Or.inl ⟨by rfl, fun w hSw => by ((try dsimp only at hSw); go_simp) <;> with_reducible rfl⟩) (by assumption) ?_
      (try simp only [Act.put, List.setIfInBounds_toArray, List.set_cons_zero, List.set_cons_succ])
      refine wpAnyH_take (i := 15) (v := _) (by (simp only [List.getElem?_toArray, List.getElem?_cons_succ, List.getElem?_cons_zero]) <;> rfl) (by kernel_rfl) (by kernel_rfl) (by kernel_rfl) (fun _ _ _ h => h) (Or.inl ⟨by rfl, fun w hSw => by ((try dsimp only at hSw); go_simp) <;> with_reducible rfl⟩) (by assumption) ?_
      (try simp only [Act.put, List.setIfInBounds_toArray, List.set_cons_zero, List.set_cons_succ])
      refine wpAnyH_take (i := 16) (v := _) (by (simp only [List.getElem?_toArray, List.getElem?_cons_succ, List.getElem?_cons_zero]) <;> rfl) (by kernel_rfl) (by kernel_rfl) (by kernel_rfl) (fun _ _ _ h => h) (Or.inl ⟨by rfl, fun w hSw => by ((try dsimp only at hSw); go_simp) <;> with_reducible rfl⟩) (by assumption) ?_
      (try simp only [Act.put, List.setIfInBounds_toArray, List.set_cons_zero, List.set_cons_succ])
      refine wpAnyH_take (i := 17) (v := _) (by (simp only [List.getElem?_toArray, List.getElem?_cons_succ, List.getElem?_cons_zero]) <;> rfl) (by kernel_rfl) (by kernel_rfl) (by kernel_rfl) (fun _ _ _ h => h) (Or.inl ⟨by rfl, fun w hSw => by ((try dsimp only at hSw); go_simp) <;> with_reducible rfl⟩) (by assumption) ?_
      (try simp only [Act.put, List.setIfInBounds_toArray, List.set_cons_zero, List.set_cons_succ])
      refine wpAnyH_take (i := 18) (v := _) (by (simp only [List.getElem?_toArray, List.getElem?_cons_succ, List.getElem?_cons_zero]) <;> rfl) (by kernel_rfl) (by kernel_rfl) (by kernel_rfl) (fun _ _ _ h => h) (Or.inl ⟨by rfl, fun w hSw => by ((try dsimp only at hSw); go_simp) <;> with_reducible rfl⟩) (by assumption) ?_
      (try simp only [Act.put, List.setIfInBounds_toArray, List.set_cons_zero, List.set_cons_succ])
      refine wpAnyH_take (i := 19) (v := _) (by (simp only [List.getElem?_toArray, List.getElem?_cons_succ, List.getElem?_cons_zero]) <;> rfl) (by kernel_rfl) (by kernel_rfl) (by kernel_rfl) (fun _ _ _ h => h) (Or.inl ⟨by rfl, fun w hSw => by ((try dsimp only at hSw); go_simp) <;> with_reducible rfl⟩) (by assumption) ?_
      (try simp only [Act.put, List.setIfInBounds_toArray, List.set_cons_zero, List.set_cons_succ])
      refine wpAnyH_take (i := 20) (v := _) (by (simp only [List.getElem?_toArray, List.getElem?_cons_succ, List.getElem?_cons_zero]) <;> rfl) (by kernel_rfl) (by kernel_rfl) (by kernel_rfl) (fun _ _ _ h => h) (Or.inl ⟨by rfl, fun w hSw => by ((try dsimp only at hSw); go_simp) <;> with_reducible rfl⟩) (by assumption) ?_
      (try simp only [Act.put, List.setIfInBounds_toArray, List.set_cons_zero, List.set_cons_succ])
      refine wpAnyH_take (i := 21) (v := _) (by (simp only [List.getElem?_toArray, List.getElem?_cons_succ, List.getElem?_cons_zero]) <;> rfl) (by kernel_rfl) (by kernel_rfl) (by kernel_rfl) (fun _ _ _ h => h) (Or.inl ⟨by rfl, fun w hSw => by ((try dsimp only at hSw); go_simp) <;> with_reducible rfl⟩) (by assumption) ?_
      (try simp only [Act.put, List.setIfInBounds_toArray, List.set_cons_zero, List.set_cons_succ])
      refine wpAnyH_take (i := 22) (v := _) (by (simp only [List.getElem?_toArray, List.getElem?_cons_succ, List.getElem?_cons_zero]) <;> rfl) (by kernel_rfl) (by kernel_rfl) (by kernel_rfl) (fun _ _ _ h => h) (Or.inl ⟨by rfl, fun w hSw => by ((try dsimp only at hSw); go_simp) <;> with_reducible rfl⟩) (by assumption) ?_
      (try simp only [Act.put, List.setIfInBounds_toArray, List.set_cons_zero, List.set_cons_succ])
      refine wpAnyH_take (i := 23) (v := _) (by (simp only [List.getElem?_toArray, List.getElem?_cons_succ, List.getElem?_cons_zero]) <;> rfl) (by kernel_rfl) (by kernel_rfl) (by kernel_rfl) (fun _ _ _ h => h) (Or.inl ⟨by rfl, fun w hSw => by ((try dsimp only at hSw); go_simp) <;> with_reducible rfl⟩) (by assumption) ?_
      (try simp only [Act.put, List.setIfInBounds_toArray, List.set_cons_zero, List.set_cons_succ])
      refine wpAnyH_take (i := 24) (v := _) (by (simp only [List.getElem?_toArray, List.getElem?_cons_succ, List.getElem?_cons_zero]) <;> rfl) (by kernel_rfl) (by kernel_rfl) (by kernel_rfl) (fun _ _ _ h => h) (Or.inl ⟨by rfl, fun w hSw => by ((try dsimp only at hSw); go_simp) <;> with_reducible rfl⟩) (by assumption) ?_
      (try simp only [Act.put, List.setIfInBounds_toArray, List.set_cons_zero, List.set_cons_succ])
      refine wpAnyH_take (i := 25) (v := _) (by (simp only [List.getElem?_toArray, List.getElem?_cons_succ, List.getElem?_cons_zero]) <;> rfl) (by kernel_rfl) (by kernel_rfl) (by kernel_rfl) (fun _ _ _ h => h) (Or.inl ⟨by rfl, fun w hSw => by ((try dsimp only at hSw); go_simp) <;> with_reducible rfl⟩) (by assumption) ?_
      (try simp only [Act.put, List.setIfInBounds_toArray, List.set_cons_zero, List.set_cons_succ])
      refine wpAnyH_take (i := 26) (v := _) (by (simp only [List.getElem?_toArray, List.getElem?_cons_succ, List.getElem?_cons_zero]) <;> rfl) (by kernel_rfl) (by kernel_rfl) (by kernel_rfl) (fun _ _ _ h => h) (Or.inl ⟨by rfl, fun w hSw => by ((try dsimp only at hSw); go_simp) <;> with_reducible rfl⟩) (by assumption) ?_
      (try simp only [Act.put, List.setIfInBounds_toArray, List.set_cons_zero, List.set_cons_succ])
      refine wpAnyH_take (i := 27) (v := _) (by (simp only [List.getElem?_toArray, List.getElem?_cons_succ, List.getElem?_cons_zero]) <;> rfl) (by kernel_rfl) (by kernel_rfl) (by kernel_rfl) (fun _ _ _ h => h) (Or.inl ⟨by rfl, fun w hSw => by ((try dsimp only at hSw); go_simp) <;> with_reducible rfl⟩) (by assumption) ?_
      (try simp only [Act.put, List.setIfInBounds_toArray, List.set_cons_zero, List.set_cons_succ])
      refine wpAnyH_done (by kernel_rfl) ?_ _
      refine NoPanic.normal ?_
      go_wp2_with fail
      go_ret
      exact ⟨rfl, Below.drew HB9.out⟩
end Go.Proofs.YtnecdeaikmhanaaGreatDoor
