/- impl.readRels, walked. -/
import Derived.Test.YtgpdkplpneklgaaReadP
import Derived.Carry
import Derived.LoopTactic
namespace Go.Proofs.Ytgpdkplpneklgaa
open Go.RowKit Go.Maps
set_option linter.unusedVariables false

set_option maxRecDepth 100000 in
set_option maxHeartbeats 8000000 in
theorem readRels_any (v : Value) (rs : List (List Int)) (w : World) (hv : RowsAt w v rs) :
    Calls Try.prog 38 #[v] w (ReadPost rs w) := by
  obtain ⟨a, cap, rfl, hc, hm⟩ := hv.form
  obtain ⟨n, hn⟩ : ∃ n, rs.length = n := ⟨_, rfl⟩
  rw [hn] at hc hv ⊢
  have HN := Lib.hid hn
  have H := Lib.hid hv
  clear hn hv
  have hmm := @run_makeMap Try.prog
  go_enter Try.func38, Try.ntmps38
  by_cases hn1 : n < 1
  · have e := Lib.hid (rels_size HN.out (by omega))
    have hnI : (n : Int) < 1 := by omega
    go_wp2_with fail
    refine bodyPost_ret (v := .tuple #[.agg #[.int .i64 0, .map none], .bool false]) (by simp [results, Try.results38, go_sem]) rfl ?_
    exact readPost_no e.out (by repeat (first | exact Below.refl _ _ | assumption | refine Below.drew ?_ | refine belowDrewN ?_ _ | refine Below.alloc ?_ (by first | exact Nat.le_refl _ | omega | (simp; done) | (simp; omega)) _ | refine Below.setCell ?_ (by first | exact Nat.le_refl _ | omega | (simp; done) | (simp; omega)) _))
  · by_cases hn5 : 5 < n
    · have e := Lib.hid (rels_size HN.out (by omega))
      have hnI : ¬ (n : Int) < 1 := by omega
      have hnI5 : 5 < (n : Int) := by omega
      go_wp2_with fail
      refine bodyPost_ret (v := .tuple #[.agg #[.int .i64 0, .map none], .bool false]) (by simp [results, Try.results38, go_sem]) rfl ?_
      exact readPost_no e.out (by repeat (first | exact Below.refl _ _ | assumption | refine Below.drew ?_ | refine belowDrewN ?_ _ | refine Below.alloc ?_ (by first | exact Nat.le_refl _ | omega | (simp; done) | (simp; omega)) _ | refine Below.setCell ?_ (by first | exact Nat.le_refl _ | omega | (simp; done) | (simp; omega)) _))
    · have hnI : ¬ (n : Int) < 1 := by omega
      have hnI5 : ¬ 5 < (n : Int) := by omega
      have S0 := Lib.hid (rr_start w n)
      go_wp2_with fail
      go_loopg [26] n (fun gk s26 wr => ∃ i : Nat, s26 = .int .i64 (i : Int) ∧ i + gk = n ∧ Hid (RR w wr n (5 * i) (valTo rs n i 0)) ∧ Hid (∀ j, j < i → (rs.getD j []).length = n ∧ ∀ k, k < n → 0 ≤ relAt rs j k ∧ relAt rs j k ≤ 3))
      case atStart => exact ⟨0, rfl, by omega, Lib.hid (by rw [valTo_none]; exact S0.out), Lib.hid fun j hj => by omega⟩
      case round =>
        clear S0
        obtain ⟨i, rfl, hi, S, hno⟩ := hrel
        have hbig := S.out.big
        have r0 := S.out.r0
        have r1 := S.out.r1
        have q0 := S.out.q0
        have q1 := S.out.q1
        have c0 := S.out.c0
        have c1 := S.out.c1
        have hbel := S.out.bel
        by_cases hg : gk = 0
        · subst hg
          obtain rfl : i = n := by omega
          have hdn : decide ((i : Int) < (i : Int)) = false := by simp
          obtain ⟨D, hown, hrd⟩ := S.out.own
          have HRD := Lib.hid hrd
          obtain ⟨w9, hw9⟩ : ∃ W, W = wr := ⟨_, rfl⟩
          subst hw9
          clear hrd
          go_wp2_with (first
            | (at_range; refine wpList_range_own _ rfl _ 65 rfl 101 3 cp_law Try.underlying65 (plainElem Try.prog 3) (w.heap.size + 1) (5 * i) D rfl hown ?_; intro w0 hrg0 hg0 hs0)
            | go_in)
          go_frame
          have S0 : Hid (RR w w0 i (5 * i) (valTo rs i i 0)) := Lib.hid (S.out.below ⟨hg0.os, hg0.tape, hg0.output, hg0.size, fun b hb => hg0.block b hb (by simp)⟩)
          have L0 : Hid (∀ p q : Nat, p < i → q < i → relAt rs p q ≠ 0 → Maps.has D (ck ((p : Int) + 1) ((q : Int) + 1)) = true ∨ coupleOk rs i ((p : Int) + 1) ((q : Int) + 1)) := Lib.hid fun p q hp hq h0 => .inl (HRD.out.here (WalkArith.wf_i64 (by omega)) (WalkArith.wf_i64 (by omega)) (by rw [valTo_all hp hq]; exact h0))
          have hs9 : w.heap.size + 3 ≤ w9.heap.size := hbig
          clear S r0 r1 q0 q1 c0 c1 hbel hbig hown hg0 hs0
          go_loopw [10] (fun _ wr => ∃ (left : Lit → Bool) (cnt : Nat), wr.ranges Try.prog 101 (plainElem Try.prog 3) (w.heap.size + 1) w9.heap.size (5 * i) D left cnt ∧ Hid (RR w wr i (5 * i) (valTo rs i i 0)) ∧ Hid (∀ p q : Nat, p < i → q < i → relAt rs p q ≠ 0 → left (ck ((p : Int) + 1) ((q : Int) + 1)) = true ∨ coupleOk rs i ((p : Int) + 1) ((q : Int) + 1)))
            (fun _ wr => wr.rangeLeft (w.heap.size + 1) w9.heap.size)
          case atStart => exact ⟨_, _, hrg0, S0, L0⟩
          case round =>
            clear S0 L0 hrg0
            obtain ⟨left, cnt, hrg, S, HL⟩ := hrel
            have hbig := S.out.big
            have r0 := S.out.r0
            have r1 := S.out.r1
            have q0 := S.out.q0
            have q1 := S.out.q1
            have c0 := S.out.c0
            have c1 := S.out.c1
            have hbel := S.out.bel
            go_wp2_with (first
              | (at_next; refine wpList_next_ranges _ rfl _ rfl 101 cp_law (plainElem Try.prog 3) (fun x : Int × Int => .agg #[.int .i64 x.1, .int .i64 x.2]) (Value.int .i64) (fun key kl h => by obtain ⟨x, h1, _⟩ := cp_inv h; exact ⟨x, h1⟩) (fun v y h => by obtain ⟨c, h1, _⟩ := plainElem_int_inv Try.underlying3 h; exact ⟨c, h1⟩) (w.heap.size + 1) w9.heap.size (5 * i) _ _ _ rfl hrg ?_ ?_)
              | go_in)
            · intro _ hl0
              have hok := Lib.hid (rels_all HN.out (by omega) (by omega) hno.out (fun p q hp hq h0 => by
                rcases HL.out p q hp hq h0 with h | h
                · rw [hl0] at h; cases h
                · exact h))
              have hown := Lib.hid hrg.owns
              clear hl0
              obtain ⟨z0, z1⟩ := stores2 (v0 := .int .i64 (i : Int)) (v1 := .map (some (w.heap.size + 1))) r0 r1
              go_wp2_with fail
              refine bodyPost_ret (v := .tuple #[.agg #[.int .i64 (i : Int), .map (some (w.heap.size + 1))], .bool true]) (by simp [results, Try.results38, go_sem, z0, z1]) rfl ?_
              exact readPost_yes hok.out HN.out (by repeat (first | exact Below.refl _ _ | assumption | refine Below.drew ?_ | refine belowDrewN ?_ _ | refine Below.alloc ?_ (by first | exact Nat.le_refl _ | omega | (simp; done) | (simp; omega)) _ | refine Below.setCell ?_ (by first | exact Nat.le_refl _ | omega | (simp; done) | (simp; omega)) _)) (by omega) (by omega) (own_set2 hown.out (by omega)) HRD.out
            · intro a1 b1 c kl yd yp w1 cnt1 hkey hlx hRy hat hrg1 hlt hg1 hs1 hen
              obtain ⟨⟨a', b'⟩, ex, rfl, hwa, hwb⟩ := cp_inv hkey
              simp only [Value.agg.injEq, Array.mk.injEq, List.cons.injEq, Value.int.injEq, true_and, and_true] at ex
              obtain ⟨rfl, rfl⟩ := ex
              obtain ⟨c', ec, ey, hwc⟩ := plainElem_int_inv Try.underlying3 hRy
              cases ec
              simp only [Prod.mk.injEq] at ey
              obtain ⟨rfl, rfl⟩ := ey
              obtain ⟨hcv, hv0⟩ := HRD.out.entry hwa hwb hat
              obtain ⟨p, q, hp, hq, ea, eb⟩ := valTo_in hv0
              simp only at ea eb
              subst ea
              subst eb
              rw [valTo_all hp hq] at hcv hv0
              have S1 : Hid (RR w w1 i (5 * i) (valTo rs i i 0)) := Lib.hid (S.out.grown hg1 ⟨by omega, by omega, by omega⟩ ⟨D, hrg1.owns, HRD.out⟩)
              have wp' : (Lit.int .i64 ((p : Int) + 1)).wf = true := WalkArith.wf_i64 (by omega)
              have wq' : (Lit.int .i64 ((q : Int) + 1)).wf = true := WalkArith.wf_i64 (by omega)
              have hlk : ∀ W : World, W.ownsMap Try.prog 101 (plainElem Try.prog 3) (w.heap.size + 1) (5 * i) D → (Instr.lookup 65 (.map (some (w.heap.size + 1))) (.agg #[.int .i64 ((q : Int) + 1), .int .i64 ((p : Int) + 1)]) false).run Try.prog W = .ok (.int .i64 (relAt rs q p)) W := fun W hW => by
                obtain ⟨c2, hrun, hat2, _⟩ := hW.lookup_int cp_law Try.underlying65 Try.underlying3 (cp_zero W) (cp_key wq' wp')
                rw [hrun, HRD.out.look wq' wp' hat2, valTo_all hq hp]
              obtain ⟨z, hz⟩ : ∃ z, relAt rs q p = z := ⟨_, rfl⟩
              rw [hz] at hlk
              have ownA := hrg1.owns.alloc (.cells #[.int .i64 ((p : Int) + 1), .int .i64 ((q : Int) + 1)] 101)
              have d0 := cell_two0 w1 (.int .i64 ((p : Int) + 1)) (.int .i64 ((q : Int) + 1)) 101
              have d1 := cell_two1 w1 (.int .i64 ((p : Int) + 1)) (.int .i64 ((q : Int) + 1)) 101
              have S2 : Hid (RR w (w1.alloc (.cells #[.int .i64 ((p : Int) + 1), .int .i64 ((q : Int) + 1)] 101)) i (5 * i) (valTo rs i i 0)) := Lib.hid (S1.out.below (Below.alloc (Below.refl _ _) (Nat.le_refl _) _))
              have e1 := S2.out.c1
              have HRG := Lib.hid (hrg1.alloc (.cells #[.int .i64 ((p : Int) + 1), .int .i64 ((q : Int) + 1)] 101))
              have HG := Lib.hid hrg
              have HV := Lib.hid hcv
              have HV0 := Lib.hid hv0
              have HZ := Lib.hid hz
              have HMI := Lib.hid (mirror_any c)
              have s0 := S2.out.r0
              have s1 := S2.out.r1
              have t0 := S2.out.q0
              have t1 := S2.out.q1
              have hbel2 := S2.out.bel
              have hbig2 := S2.out.big
              have HLX := Lib.hid hlx
              clear hkey hRy hat hlx hz hcv hv0 hrg r0 r1 q0 q1 c0 c1 hbel hbig hg1 hs1
              by_cases hpq : p = q
              · have hbad := Lib.hid (rels_bad HN.out hp hq HV0.out (fun h => h.1 (by omega)))
                have hqb : ((p : Int) + 1 == (q : Int) + 1) = true := by simp [hpq]
                clear hpq
                go_wp2_with fail
                refine wp_region_noPanic ?_
                refine wp_region_held_drew (S := (fun w' => w'.cell? ⟨w1.heap.size, 0, none⟩ = some (.int .i64 ((p : Int) + 1)) ∧ w'.cell? ⟨w1.heap.size, 1, none⟩ = some (.int .i64 ((q : Int) + 1)) ∧ w'.cell? ⟨w.heap.size + 2, 1, none⟩ = some (.map (some (w.heap.size + 1))) ∧ w'.ownsMap Try.prog 101 (plainElem Try.prog 3) (w.heap.size + 1) (5 * i) D)) (by kernel_rfl) (by exact ⟨d0, d1, e1, ownA⟩) (fun hHeld => ?_)
                refine wpAnyH_take (i := 0) (v := _) (by (simp only [List.getElem?_toArray, List.getElem?_cons_zero]) <;> rfl) (by kernel_rfl) (by kernel_rfl) (by kernel_rfl) (fun _ _ _ h => h) (Or.inl ⟨by rfl, fun w hSw => by ((try dsimp only at hSw); go_simp) <;> with_reducible rfl⟩) (by assumption) ?_
                (try simp only [Act.put, List.setIfInBounds_toArray, List.set_cons_zero, List.set_cons_succ])
                refine wpAnyH_take (i := 1) (v := _) (by (simp only [List.getElem?_toArray, List.getElem?_cons_succ, List.getElem?_cons_zero]) <;> rfl) (by kernel_rfl) (by kernel_rfl) (by kernel_rfl) (fun _ _ _ h => h) (Or.inl ⟨by rfl, fun w hSw => by ((try dsimp only at hSw); go_simp) <;> with_reducible rfl⟩) (by assumption) ?_
                (try simp only [Act.put, List.setIfInBounds_toArray, List.set_cons_zero, List.set_cons_succ])
                refine wpAnyH_take (i := 2) (v := _) (by (simp only [List.getElem?_toArray, List.getElem?_cons_succ, List.getElem?_cons_zero]) <;> rfl) (by kernel_rfl) (by kernel_rfl) (by kernel_rfl) (fun _ _ _ h => h) (Or.inl ⟨by rfl, fun w hSw => by ((try dsimp only at hSw); go_simp) <;> with_reducible rfl⟩) (by assumption) ?_
                (try simp only [Act.put, List.setIfInBounds_toArray, List.set_cons_zero, List.set_cons_succ])
                refine wpAnyH_take (i := 3) (v := _) (by (simp only [List.getElem?_toArray, List.getElem?_cons_succ, List.getElem?_cons_zero]) <;> rfl) (by kernel_rfl) (by kernel_rfl) (by kernel_rfl) (fun _ _ _ h => h) (Or.inl ⟨by rfl, fun w hSw => by ((try dsimp only at hSw); go_simp) <;> with_reducible rfl⟩) (by assumption) ?_
                (try simp only [Act.put, List.setIfInBounds_toArray, List.set_cons_zero, List.set_cons_succ])
                refine wpAnyH_take (i := 4) (v := _) (by (simp only [List.getElem?_toArray, List.getElem?_cons_succ, List.getElem?_cons_zero]) <;> rfl) (by kernel_rfl) (by kernel_rfl) (by kernel_rfl) (fun _ _ _ h => h) (Or.inl ⟨by rfl, fun w hSw => by ((try dsimp only at hSw); go_simp) <;> with_reducible rfl⟩) (by assumption) ?_
                (try simp only [Act.put, List.setIfInBounds_toArray, List.set_cons_zero, List.set_cons_succ])
                refine wpAnyH_take (i := 5) (v := _) (by (simp only [List.getElem?_toArray, List.getElem?_cons_succ, List.getElem?_cons_zero]) <;> rfl) (by kernel_rfl) (by kernel_rfl) (by kernel_rfl) (fun _ _ _ h => h) (Or.inl ⟨by rfl, fun w hSw => by ((try dsimp only at hSw); go_simp) <;> with_reducible rfl⟩) (by assumption) ?_
                (try simp only [Act.put, List.setIfInBounds_toArray, List.set_cons_zero, List.set_cons_succ])
                refine wpAnyH_take (i := 6) (v := _) (by (simp only [List.getElem?_toArray, List.getElem?_cons_succ, List.getElem?_cons_zero]) <;> rfl) (by kernel_rfl) (by kernel_rfl) (by kernel_rfl) (fun _ _ _ h => h) (Or.inr ⟨by rfl, rfl⟩) (by assumption) ?_
                (try simp only [Act.put, List.setIfInBounds_toArray, List.set_cons_zero, List.set_cons_succ])
                refine wpAnyH_take (i := 7) (v := _) (by (simp only [List.getElem?_toArray, List.getElem?_cons_succ, List.getElem?_cons_zero]) <;> rfl) (by kernel_rfl) (by kernel_rfl) (by kernel_rfl) (fun _ _ _ h => h) (Or.inr ⟨by rfl, rfl⟩) (by assumption) ?_
                (try simp only [Act.put, List.setIfInBounds_toArray, List.set_cons_zero, List.set_cons_succ])
                refine wpAnyH_take (i := 8) (v := _) (by (simp only [List.getElem?_toArray, List.getElem?_cons_succ, List.getElem?_cons_zero]) <;> rfl) (by kernel_rfl) (by kernel_rfl) (by kernel_rfl) (fun _ _ _ h => h) (Or.inr ⟨by rfl, rfl⟩) (by assumption) ?_
                (try simp only [Act.put, List.setIfInBounds_toArray, List.set_cons_zero, List.set_cons_succ])
                refine wpAnyH_take (i := 9) (v := _) (by (simp only [List.getElem?_toArray, List.getElem?_cons_succ, List.getElem?_cons_zero]) <;> rfl) (by kernel_rfl) (by kernel_rfl) (by kernel_rfl) (fun _ _ _ h => h) (Or.inr ⟨by rfl, rfl⟩) (by assumption) ?_
                (try simp only [Act.put, List.setIfInBounds_toArray, List.set_cons_zero, List.set_cons_succ])
                refine wpAnyH_take (i := 10) (v := _) (by (simp only [List.getElem?_toArray, List.getElem?_cons_succ, List.getElem?_cons_zero]) <;> rfl) (by kernel_rfl) (by kernel_rfl) (by kernel_rfl) (fun _ _ _ h => h) (Or.inr ⟨by rfl, rfl⟩) (by assumption) ?_
                (try simp only [Act.put, List.setIfInBounds_toArray, List.set_cons_zero, List.set_cons_succ])
                refine wpAnyH_take (i := 11) (v := _) (by (simp only [List.getElem?_toArray, List.getElem?_cons_succ, List.getElem?_cons_zero]) <;> rfl) (by kernel_rfl) (by kernel_rfl) (by kernel_rfl) (fun _ _ _ h => h) (Or.inr ⟨by rfl, rfl⟩) (by assumption) ?_
                (try simp only [Act.put, List.setIfInBounds_toArray, List.set_cons_zero, List.set_cons_succ])
                refine wpAnyH_take (i := 12) (v := _) (by (simp only [List.getElem?_toArray, List.getElem?_cons_succ, List.getElem?_cons_zero]) <;> rfl) (by kernel_rfl) (by kernel_rfl) (by kernel_rfl) (fun _ _ _ h => h) (Or.inr ⟨by rfl, rfl⟩) (by assumption) ?_
                (try simp only [Act.put, List.setIfInBounds_toArray, List.set_cons_zero, List.set_cons_succ])
                refine wpAnyH_take (i := 13) (v := _) (by (simp only [List.getElem?_toArray, List.getElem?_cons_succ, List.getElem?_cons_zero]) <;> rfl) (by kernel_rfl) (by kernel_rfl) (by kernel_rfl) (fun _ _ _ h => h) (Or.inr ⟨by rfl, rfl⟩) (by assumption) ?_
                (try simp only [Act.put, List.setIfInBounds_toArray, List.set_cons_zero, List.set_cons_succ])
                refine wpAnyH_take (i := 14) (v := _) (by (simp only [List.getElem?_toArray, List.getElem?_cons_succ, List.getElem?_cons_zero]) <;> rfl) (by kernel_rfl) (by kernel_rfl) (by kernel_rfl) (fun _ _ _ h => h) (Or.inr ⟨by rfl, rfl⟩) (by assumption) ?_
                (try simp only [Act.put, List.setIfInBounds_toArray, List.set_cons_zero, List.set_cons_succ])
                refine wpAnyH_take (i := 15) (v := _) (by (simp only [List.getElem?_toArray, List.getElem?_cons_succ, List.getElem?_cons_zero]) <;> rfl) (by kernel_rfl) (by kernel_rfl) (by kernel_rfl) (fun _ _ _ h => h) (Or.inr ⟨by rfl, rfl⟩) (by assumption) ?_
                (try simp only [Act.put, List.setIfInBounds_toArray, List.set_cons_zero, List.set_cons_succ])
                refine wpAnyH_take (i := 16) (v := _) (by (simp only [List.getElem?_toArray, List.getElem?_cons_succ, List.getElem?_cons_zero]) <;> rfl) (by kernel_rfl) (by kernel_rfl) (by kernel_rfl) (fun _ _ _ h => h) (Or.inr ⟨by rfl, rfl⟩) (by assumption) ?_
                (try simp only [Act.put, List.setIfInBounds_toArray, List.set_cons_zero, List.set_cons_succ])
                refine wpAnyH_take (i := 17) (v := _) (by (simp only [List.getElem?_toArray, List.getElem?_cons_succ, List.getElem?_cons_zero]) <;> rfl) (by kernel_rfl) (by kernel_rfl) (by kernel_rfl) (fun _ _ _ h => h) (Or.inl ⟨by rfl, fun w hSw => by ((try dsimp only at hSw); go_simp) <;> with_reducible rfl⟩) (by assumption) ?_
                (try simp only [Act.put, List.setIfInBounds_toArray, List.set_cons_zero, List.set_cons_succ])
                refine wpAnyH_done (by kernel_rfl) ?_ _
                refine NoPanic.normal ?_
                go_wp2_with fail
                obtain ⟨z0, z1⟩ := stores2 (w1 := (w1.alloc (.cells #[.int .i64 ((p : Int) + 1), .int .i64 ((q : Int) + 1)] 101))) (v0 := .int .i64 0) (v1 := .map none) s0 s1
                replace z0 : (((w1.alloc (.cells #[.int .i64 ((p : Int) + 1), .int .i64 ((q : Int) + 1)] 101)).setCell ⟨w.heap.size, 0, none⟩ (.int .i64 0)).setCell ⟨w.heap.size, 1, none⟩ (.map none)).drew.cell? ⟨w.heap.size, 0, none⟩ = some (.int .i64 0) := z0
                replace z1 : (((w1.alloc (.cells #[.int .i64 ((p : Int) + 1), .int .i64 ((q : Int) + 1)] 101)).setCell ⟨w.heap.size, 0, none⟩ (.int .i64 0)).setCell ⟨w.heap.size, 1, none⟩ (.map none)).drew.cell? ⟨w.heap.size, 1, none⟩ = some (.map none) := z1
                refine bodyPost_ret (v := .tuple #[.agg #[.int .i64 0, .map none], .bool false]) (by simp [results, Try.results38, go_sem, z0, z1]) rfl ?_
                exact readPost_no hbad.out (by repeat (first | exact Below.refl _ _ | assumption | refine Below.drew ?_ | refine belowDrewN ?_ _ | refine Below.alloc ?_ (by first | exact Nat.le_refl _ | omega | (simp; done) | (simp; omega)) _ | refine Below.setCell ?_ (by first | exact Nat.le_refl _ | omega | (simp; done) | (simp; omega)) _))
              · have hqb : ((p : Int) + 1 == (q : Int) + 1) = false := by simp; omega
                obtain ⟨mc, hmc⟩ : ∃ m, backF c = m := ⟨_, rfl⟩
                rw [hmc] at HMI
                have HMC := Lib.hid hmc
                by_cases hzm : z = mc
                · have hcok : Hid (coupleOk rs i ((p : Int) + 1) ((q : Int) + 1)) := Lib.hid ⟨by omega, by rw [valTo_all hq hp, valTo_all hp hq, HZ.out, ← HV.out, HMC.out]; exact hzm⟩
                  clear hmc
                  subst hzm
                  have hzb : (z != z) = false := by simp
                  go_wp2_with fail
                  refine wp_region_noPanic ?_
                  refine wp_region_held_drew (S := (fun w' => w'.cell? ⟨w1.heap.size, 0, none⟩ = some (.int .i64 ((p : Int) + 1)) ∧ w'.cell? ⟨w1.heap.size, 1, none⟩ = some (.int .i64 ((q : Int) + 1)) ∧ w'.cell? ⟨w.heap.size + 2, 1, none⟩ = some (.map (some (w.heap.size + 1))) ∧ w'.ownsMap Try.prog 101 (plainElem Try.prog 3) (w.heap.size + 1) (5 * i) D)) (by kernel_rfl) (by exact ⟨d0, d1, e1, ownA⟩) (fun hHeld => ?_)
                  refine wpAnyH_take (i := 0) (v := _) (by (simp only [List.getElem?_toArray, List.getElem?_cons_zero]) <;> rfl) (by kernel_rfl) (by kernel_rfl) (by kernel_rfl) (fun _ _ _ h => h) (Or.inl ⟨by rfl, fun w hSw => by ((try dsimp only at hSw); go_simp) <;> with_reducible rfl⟩) (by assumption) ?_
                  (try simp only [Act.put, List.setIfInBounds_toArray, List.set_cons_zero, List.set_cons_succ])
                  refine wpAnyH_take (i := 1) (v := _) (by (simp only [List.getElem?_toArray, List.getElem?_cons_succ, List.getElem?_cons_zero]) <;> rfl) (by kernel_rfl) (by kernel_rfl) (by kernel_rfl) (fun _ _ _ h => h) (Or.inl ⟨by rfl, fun w hSw => by ((try dsimp only at hSw); go_simp) <;> with_reducible rfl⟩) (by assumption) ?_
                  (try simp only [Act.put, List.setIfInBounds_toArray, List.set_cons_zero, List.set_cons_succ])
                  refine wpAnyH_take (i := 2) (v := _) (by (simp only [List.getElem?_toArray, List.getElem?_cons_succ, List.getElem?_cons_zero]) <;> rfl) (by kernel_rfl) (by kernel_rfl) (by kernel_rfl) (fun _ _ _ h => h) (Or.inl ⟨by rfl, fun w hSw => by ((try dsimp only at hSw); go_simp) <;> with_reducible rfl⟩) (by assumption) ?_
                  (try simp only [Act.put, List.setIfInBounds_toArray, List.set_cons_zero, List.set_cons_succ])
                  refine wpAnyH_take (i := 3) (v := _) (by (simp only [List.getElem?_toArray, List.getElem?_cons_succ, List.getElem?_cons_zero]) <;> rfl) (by kernel_rfl) (by kernel_rfl) (by kernel_rfl) (fun _ _ _ h => h) (Or.inl ⟨by rfl, fun w hSw => by ((try dsimp only at hSw); go_simp) <;> with_reducible rfl⟩) (by assumption) ?_
                  (try simp only [Act.put, List.setIfInBounds_toArray, List.set_cons_zero, List.set_cons_succ])
                  refine wpAnyH_take (i := 4) (v := _) (by (simp only [List.getElem?_toArray, List.getElem?_cons_succ, List.getElem?_cons_zero]) <;> rfl) (by kernel_rfl) (by kernel_rfl) (by kernel_rfl) (fun _ _ _ h => h) (Or.inl ⟨by rfl, fun w hSw => by ((try dsimp only at hSw); go_simp) <;> with_reducible rfl⟩) (by assumption) ?_
                  (try simp only [Act.put, List.setIfInBounds_toArray, List.set_cons_zero, List.set_cons_succ])
                  refine wpAnyH_take (i := 5) (v := _) (by (simp only [List.getElem?_toArray, List.getElem?_cons_succ, List.getElem?_cons_zero]) <;> rfl) (by kernel_rfl) (by kernel_rfl) (by kernel_rfl) (fun _ _ _ h => h) (Or.inl ⟨by rfl, fun w hSw => by ((try dsimp only at hSw); go_simp) <;> with_reducible rfl⟩) (by assumption) ?_
                  (try simp only [Act.put, List.setIfInBounds_toArray, List.set_cons_zero, List.set_cons_succ])
                  refine wpAnyH_take (i := 6) (v := _) (by (simp only [List.getElem?_toArray, List.getElem?_cons_succ, List.getElem?_cons_zero]) <;> rfl) (by kernel_rfl) (by kernel_rfl) (by kernel_rfl) (fun _ _ _ h => h) (Or.inl ⟨by rfl, fun w hSw => by ((try dsimp only at hSw); go_simp) <;> with_reducible rfl⟩) (by assumption) ?_
                  (try simp only [Act.put, List.setIfInBounds_toArray, List.set_cons_zero, List.set_cons_succ])
                  refine wpAnyH_take (i := 7) (v := _) (by (simp only [List.getElem?_toArray, List.getElem?_cons_succ, List.getElem?_cons_zero]) <;> rfl) (by kernel_rfl) (by kernel_rfl) (by kernel_rfl) (fun _ _ _ h => h) (Or.inl ⟨by rfl, fun w hSw => by ((try dsimp only at hSw); go_simp) <;> with_reducible rfl⟩) (by assumption) ?_
                  (try simp only [Act.put, List.setIfInBounds_toArray, List.set_cons_zero, List.set_cons_succ])
                  refine wpAnyH_take (i := 8) (v := _) (by (simp only [List.getElem?_toArray, List.getElem?_cons_succ, List.getElem?_cons_zero]) <;> rfl) (by kernel_rfl) (by kernel_rfl) (by kernel_rfl) (fun _ _ _ h => h) (Or.inl ⟨by rfl, fun w hSw => by ((try dsimp only at hSw); go_simp) <;> with_reducible rfl⟩) (by assumption) ?_
                  (try simp only [Act.put, List.setIfInBounds_toArray, List.set_cons_zero, List.set_cons_succ])
                  refine wpAnyH_take (i := 9) (v := _) (by (simp only [List.getElem?_toArray, List.getElem?_cons_succ, List.getElem?_cons_zero]) <;> rfl) (by kernel_rfl) (by kernel_rfl) (by kernel_rfl) (fun _ _ _ h => h) (Or.inl ⟨by rfl, fun w hSw => by ((try dsimp only at hSw); go_simp) <;> with_reducible rfl⟩) (by assumption) ?_
                  (try simp only [Act.put, List.setIfInBounds_toArray, List.set_cons_zero, List.set_cons_succ])
                  refine wpAnyH_take (i := 10) (v := _) (by (simp only [List.getElem?_toArray, List.getElem?_cons_succ, List.getElem?_cons_zero]) <;> rfl) (by kernel_rfl) (by kernel_rfl) (by kernel_rfl) (fun _ _ _ h => h) (Or.inl ⟨by rfl, fun w hSw => by ((try dsimp only at hSw); go_simp) <;> with_reducible rfl⟩) (by assumption) ?_
                  (try simp only [Act.put, List.setIfInBounds_toArray, List.set_cons_zero, List.set_cons_succ])
                  refine wpAnyH_take (i := 11) (v := _) (by (simp only [List.getElem?_toArray, List.getElem?_cons_succ, List.getElem?_cons_zero]) <;> rfl) (by kernel_rfl) (by kernel_rfl) (by kernel_rfl) (fun _ _ _ h => h) (Or.inl ⟨by rfl, fun w hSw => by ((try dsimp only at hSw); go_simp) <;> with_reducible rfl⟩) (by assumption) ?_
                  (try simp only [Act.put, List.setIfInBounds_toArray, List.set_cons_zero, List.set_cons_succ])
                  refine wpAnyH_take (i := 12) (v := _) (by (simp only [List.getElem?_toArray, List.getElem?_cons_succ, List.getElem?_cons_zero]) <;> rfl) (by kernel_rfl) (by kernel_rfl) (by kernel_rfl) (fun _ _ _ h => h) (Or.inl ⟨by rfl, fun w hSw => by ((try dsimp only at hSw); go_simp) <;> with_reducible rfl⟩) (by assumption) ?_
                  (try simp only [Act.put, List.setIfInBounds_toArray, List.set_cons_zero, List.set_cons_succ])
                  refine wpAnyH_take (i := 13) (v := _) (by (simp only [List.getElem?_toArray, List.getElem?_cons_succ, List.getElem?_cons_zero]) <;> rfl) (by kernel_rfl) (by kernel_rfl) (by kernel_rfl) (fun _ _ _ h => h) (Or.inl ⟨by rfl, fun w hSw => by ((try dsimp only at hSw); go_simp) <;> with_reducible rfl⟩) (by assumption) ?_
                  (try simp only [Act.put, List.setIfInBounds_toArray, List.set_cons_zero, List.set_cons_succ])
                  refine wpAnyH_take (i := 14) (v := _) (by (simp only [List.getElem?_toArray, List.getElem?_cons_succ, List.getElem?_cons_zero]) <;> rfl) (by kernel_rfl) (by kernel_rfl) (by kernel_rfl) (fun _ _ _ h => h) (Or.inl ⟨by rfl, fun w hSw => by ((try dsimp only at hSw); go_simp) <;> with_reducible rfl⟩) (by assumption) ?_
                  (try simp only [Act.put, List.setIfInBounds_toArray, List.set_cons_zero, List.set_cons_succ])
                  refine wpAnyH_ready (rs := [15]) (by kernel_rfl) (by simp) ?_
                  refine AllReadyH.cons (by (simp only [List.getElem?_toArray, List.getElem?_cons_succ, List.getElem?_cons_zero]) <;> rfl) (fun K hK => ?_) AllReadyH.nil
                  go_simp
                  (go_at_call 65; refine (HMI.out _).mono ?_; rintro r w2 ⟨rfl, rfl⟩)
                  refine hK.out _ _ (by exact ⟨d0, d1, e1, ownA⟩) (fun hHeld => ?_)
                  (try simp only [Act.put, List.setIfInBounds_toArray, List.set_cons_zero, List.set_cons_succ])
                  refine wpAnyH_take (i := 16) (v := _) (by (simp only [List.getElem?_toArray, List.getElem?_cons_succ, List.getElem?_cons_zero]) <;> rfl) (by kernel_rfl) (by kernel_rfl) (by kernel_rfl) (fun _ _ _ h => h) (Or.inl ⟨by rfl, fun w hSw => by ((try dsimp only at hSw); go_simp) <;> with_reducible rfl⟩) (by assumption) ?_
                  (try simp only [Act.put, List.setIfInBounds_toArray, List.set_cons_zero, List.set_cons_succ])
                  refine wpAnyH_take (i := 17) (v := _) (by (simp only [List.getElem?_toArray, List.getElem?_cons_succ, List.getElem?_cons_zero]) <;> rfl) (by kernel_rfl) (by kernel_rfl) (by kernel_rfl) (fun _ _ _ h => h) (Or.inl ⟨by rfl, fun w hSw => by ((try dsimp only at hSw); go_simp) <;> with_reducible rfl⟩) (by assumption) ?_
                  (try simp only [Act.put, List.setIfInBounds_toArray, List.set_cons_zero, List.set_cons_succ])
                  refine wpAnyH_done (by kernel_rfl) ?_ _
                  refine NoPanic.normal ?_
                  go_wp2_with fail
                  go_roundw
                  case rel =>
                    refine ⟨_, cnt1, ranges_drew HRG.out, Lib.hid (S2.out.below (Below.drew (Below.refl _ _))), Lib.hid fun p' q' hp' hq' h0 => ?_⟩
                    rcases HL.out p' q' hp' hq' h0 with h | h
                    · by_cases hpq' : p' = p ∧ q' = q
                      · right; rw [hpq'.1, hpq'.2]; exact hcok.out
                      · left
                        have hwp : (Lit.int .i64 ((p' : Int) + 1)).wf = true := WalkArith.wf_i64 (by omega)
                        have hwq : (Lit.int .i64 ((q' : Int) + 1)).wf = true := WalkArith.wf_i64 (by omega)
                        rw [h, Maps.sameKey_ne (fun e => hpq' (by obtain ⟨e1, e2⟩ := ck_inj hwp hwq wp' wq' e; omega))]; rfl
                    · exact .inr h
                  case measure =>
                    rw [ranges_left_drew]
                    rw [HRG.out.left_eq, HG.out.left_eq]; exact hlt
                · have hbad := Lib.hid (rels_bad HN.out hp hq HV0.out (fun h => hzm (by have := h.2; rw [valTo_all hq hp, valTo_all hp hq, HZ.out, ← HV.out, hmc] at this; exact this)))
                  have hzb : (z != mc) = true := by simp [hzm]
                  clear hmc
                  go_wp2_with fail
                  refine wp_region_noPanic ?_
                  refine wp_region_held_drew (S := (fun w' => w'.cell? ⟨w1.heap.size, 0, none⟩ = some (.int .i64 ((p : Int) + 1)) ∧ w'.cell? ⟨w1.heap.size, 1, none⟩ = some (.int .i64 ((q : Int) + 1)) ∧ w'.cell? ⟨w.heap.size + 2, 1, none⟩ = some (.map (some (w.heap.size + 1))) ∧ w'.ownsMap Try.prog 101 (plainElem Try.prog 3) (w.heap.size + 1) (5 * i) D)) (by kernel_rfl) (by exact ⟨d0, d1, e1, ownA⟩) (fun hHeld => ?_)
                  refine wpAnyH_take (i := 0) (v := _) (by (simp only [List.getElem?_toArray, List.getElem?_cons_zero]) <;> rfl) (by kernel_rfl) (by kernel_rfl) (by kernel_rfl) (fun _ _ _ h => h) (Or.inl ⟨by rfl, fun w hSw => by ((try dsimp only at hSw); go_simp) <;> with_reducible rfl⟩) (by assumption) ?_
                  (try simp only [Act.put, List.setIfInBounds_toArray, List.set_cons_zero, List.set_cons_succ])
                  refine wpAnyH_take (i := 1) (v := _) (by (simp only [List.getElem?_toArray, List.getElem?_cons_succ, List.getElem?_cons_zero]) <;> rfl) (by kernel_rfl) (by kernel_rfl) (by kernel_rfl) (fun _ _ _ h => h) (Or.inl ⟨by rfl, fun w hSw => by ((try dsimp only at hSw); go_simp) <;> with_reducible rfl⟩) (by assumption) ?_
                  (try simp only [Act.put, List.setIfInBounds_toArray, List.set_cons_zero, List.set_cons_succ])
                  refine wpAnyH_take (i := 2) (v := _) (by (simp only [List.getElem?_toArray, List.getElem?_cons_succ, List.getElem?_cons_zero]) <;> rfl) (by kernel_rfl) (by kernel_rfl) (by kernel_rfl) (fun _ _ _ h => h) (Or.inl ⟨by rfl, fun w hSw => by ((try dsimp only at hSw); go_simp) <;> with_reducible rfl⟩) (by assumption) ?_
                  (try simp only [Act.put, List.setIfInBounds_toArray, List.set_cons_zero, List.set_cons_succ])
                  refine wpAnyH_take (i := 3) (v := _) (by (simp only [List.getElem?_toArray, List.getElem?_cons_succ, List.getElem?_cons_zero]) <;> rfl) (by kernel_rfl) (by kernel_rfl) (by kernel_rfl) (fun _ _ _ h => h) (Or.inl ⟨by rfl, fun w hSw => by ((try dsimp only at hSw); go_simp) <;> with_reducible rfl⟩) (by assumption) ?_
                  (try simp only [Act.put, List.setIfInBounds_toArray, List.set_cons_zero, List.set_cons_succ])
                  refine wpAnyH_take (i := 4) (v := _) (by (simp only [List.getElem?_toArray, List.getElem?_cons_succ, List.getElem?_cons_zero]) <;> rfl) (by kernel_rfl) (by kernel_rfl) (by kernel_rfl) (fun _ _ _ h => h) (Or.inl ⟨by rfl, fun w hSw => by ((try dsimp only at hSw); go_simp) <;> with_reducible rfl⟩) (by assumption) ?_
                  (try simp only [Act.put, List.setIfInBounds_toArray, List.set_cons_zero, List.set_cons_succ])
                  refine wpAnyH_take (i := 5) (v := _) (by (simp only [List.getElem?_toArray, List.getElem?_cons_succ, List.getElem?_cons_zero]) <;> rfl) (by kernel_rfl) (by kernel_rfl) (by kernel_rfl) (fun _ _ _ h => h) (Or.inl ⟨by rfl, fun w hSw => by ((try dsimp only at hSw); go_simp) <;> with_reducible rfl⟩) (by assumption) ?_
                  (try simp only [Act.put, List.setIfInBounds_toArray, List.set_cons_zero, List.set_cons_succ])
                  refine wpAnyH_take (i := 6) (v := _) (by (simp only [List.getElem?_toArray, List.getElem?_cons_succ, List.getElem?_cons_zero]) <;> rfl) (by kernel_rfl) (by kernel_rfl) (by kernel_rfl) (fun _ _ _ h => h) (Or.inl ⟨by rfl, fun w hSw => by ((try dsimp only at hSw); go_simp) <;> with_reducible rfl⟩) (by assumption) ?_
                  (try simp only [Act.put, List.setIfInBounds_toArray, List.set_cons_zero, List.set_cons_succ])
                  refine wpAnyH_take (i := 7) (v := _) (by (simp only [List.getElem?_toArray, List.getElem?_cons_succ, List.getElem?_cons_zero]) <;> rfl) (by kernel_rfl) (by kernel_rfl) (by kernel_rfl) (fun _ _ _ h => h) (Or.inl ⟨by rfl, fun w hSw => by ((try dsimp only at hSw); go_simp) <;> with_reducible rfl⟩) (by assumption) ?_
                  (try simp only [Act.put, List.setIfInBounds_toArray, List.set_cons_zero, List.set_cons_succ])
                  refine wpAnyH_take (i := 8) (v := _) (by (simp only [List.getElem?_toArray, List.getElem?_cons_succ, List.getElem?_cons_zero]) <;> rfl) (by kernel_rfl) (by kernel_rfl) (by kernel_rfl) (fun _ _ _ h => h) (Or.inl ⟨by rfl, fun w hSw => by ((try dsimp only at hSw); go_simp) <;> with_reducible rfl⟩) (by assumption) ?_
                  (try simp only [Act.put, List.setIfInBounds_toArray, List.set_cons_zero, List.set_cons_succ])
                  refine wpAnyH_take (i := 9) (v := _) (by (simp only [List.getElem?_toArray, List.getElem?_cons_succ, List.getElem?_cons_zero]) <;> rfl) (by kernel_rfl) (by kernel_rfl) (by kernel_rfl) (fun _ _ _ h => h) (Or.inl ⟨by rfl, fun w hSw => by ((try dsimp only at hSw); go_simp) <;> with_reducible rfl⟩) (by assumption) ?_
                  (try simp only [Act.put, List.setIfInBounds_toArray, List.set_cons_zero, List.set_cons_succ])
                  refine wpAnyH_take (i := 10) (v := _) (by (simp only [List.getElem?_toArray, List.getElem?_cons_succ, List.getElem?_cons_zero]) <;> rfl) (by kernel_rfl) (by kernel_rfl) (by kernel_rfl) (fun _ _ _ h => h) (Or.inl ⟨by rfl, fun w hSw => by ((try dsimp only at hSw); go_simp) <;> with_reducible rfl⟩) (by assumption) ?_
                  (try simp only [Act.put, List.setIfInBounds_toArray, List.set_cons_zero, List.set_cons_succ])
                  refine wpAnyH_take (i := 11) (v := _) (by (simp only [List.getElem?_toArray, List.getElem?_cons_succ, List.getElem?_cons_zero]) <;> rfl) (by kernel_rfl) (by kernel_rfl) (by kernel_rfl) (fun _ _ _ h => h) (Or.inl ⟨by rfl, fun w hSw => by ((try dsimp only at hSw); go_simp) <;> with_reducible rfl⟩) (by assumption) ?_
                  (try simp only [Act.put, List.setIfInBounds_toArray, List.set_cons_zero, List.set_cons_succ])
                  refine wpAnyH_take (i := 12) (v := _) (by (simp only [List.getElem?_toArray, List.getElem?_cons_succ, List.getElem?_cons_zero]) <;> rfl) (by kernel_rfl) (by kernel_rfl) (by kernel_rfl) (fun _ _ _ h => h) (Or.inl ⟨by rfl, fun w hSw => by ((try dsimp only at hSw); go_simp) <;> with_reducible rfl⟩) (by assumption) ?_
                  (try simp only [Act.put, List.setIfInBounds_toArray, List.set_cons_zero, List.set_cons_succ])
                  refine wpAnyH_take (i := 13) (v := _) (by (simp only [List.getElem?_toArray, List.getElem?_cons_succ, List.getElem?_cons_zero]) <;> rfl) (by kernel_rfl) (by kernel_rfl) (by kernel_rfl) (fun _ _ _ h => h) (Or.inl ⟨by rfl, fun w hSw => by ((try dsimp only at hSw); go_simp) <;> with_reducible rfl⟩) (by assumption) ?_
                  (try simp only [Act.put, List.setIfInBounds_toArray, List.set_cons_zero, List.set_cons_succ])
                  refine wpAnyH_take (i := 14) (v := _) (by (simp only [List.getElem?_toArray, List.getElem?_cons_succ, List.getElem?_cons_zero]) <;> rfl) (by kernel_rfl) (by kernel_rfl) (by kernel_rfl) (fun _ _ _ h => h) (Or.inl ⟨by rfl, fun w hSw => by ((try dsimp only at hSw); go_simp) <;> with_reducible rfl⟩) (by assumption) ?_
                  (try simp only [Act.put, List.setIfInBounds_toArray, List.set_cons_zero, List.set_cons_succ])
                  refine wpAnyH_ready (rs := [15]) (by kernel_rfl) (by simp) ?_
                  refine AllReadyH.cons (by (simp only [List.getElem?_toArray, List.getElem?_cons_succ, List.getElem?_cons_zero]) <;> rfl) (fun K hK => ?_) AllReadyH.nil
                  go_simp
                  (go_at_call 65; refine (HMI.out _).mono ?_; rintro r w2 ⟨rfl, rfl⟩)
                  refine hK.out _ _ (by exact ⟨d0, d1, e1, ownA⟩) (fun hHeld => ?_)
                  (try simp only [Act.put, List.setIfInBounds_toArray, List.set_cons_zero, List.set_cons_succ])
                  refine wpAnyH_take (i := 16) (v := _) (by (simp only [List.getElem?_toArray, List.getElem?_cons_succ, List.getElem?_cons_zero]) <;> rfl) (by kernel_rfl) (by kernel_rfl) (by kernel_rfl) (fun _ _ _ h => h) (Or.inl ⟨by rfl, fun w hSw => by ((try dsimp only at hSw); go_simp) <;> with_reducible rfl⟩) (by assumption) ?_
                  (try simp only [Act.put, List.setIfInBounds_toArray, List.set_cons_zero, List.set_cons_succ])
                  refine wpAnyH_take (i := 17) (v := _) (by (simp only [List.getElem?_toArray, List.getElem?_cons_succ, List.getElem?_cons_zero]) <;> rfl) (by kernel_rfl) (by kernel_rfl) (by kernel_rfl) (fun _ _ _ h => h) (Or.inl ⟨by rfl, fun w hSw => by ((try dsimp only at hSw); go_simp) <;> with_reducible rfl⟩) (by assumption) ?_
                  (try simp only [Act.put, List.setIfInBounds_toArray, List.set_cons_zero, List.set_cons_succ])
                  refine wpAnyH_done (by kernel_rfl) ?_ _
                  refine NoPanic.normal ?_
                  go_wp2_with fail
                  obtain ⟨z0, z1⟩ := stores2 (w1 := (w1.alloc (.cells #[.int .i64 ((p : Int) + 1), .int .i64 ((q : Int) + 1)] 101))) (v0 := .int .i64 0) (v1 := .map none) s0 s1
                  replace z0 : (((w1.alloc (.cells #[.int .i64 ((p : Int) + 1), .int .i64 ((q : Int) + 1)] 101)).setCell ⟨w.heap.size, 0, none⟩ (.int .i64 0)).setCell ⟨w.heap.size, 1, none⟩ (.map none)).drew.cell? ⟨w.heap.size, 0, none⟩ = some (.int .i64 0) := z0
                  replace z1 : (((w1.alloc (.cells #[.int .i64 ((p : Int) + 1), .int .i64 ((q : Int) + 1)] 101)).setCell ⟨w.heap.size, 0, none⟩ (.int .i64 0)).setCell ⟨w.heap.size, 1, none⟩ (.map none)).drew.cell? ⟨w.heap.size, 1, none⟩ = some (.map none) := z1
                  refine bodyPost_ret (v := .tuple #[.agg #[.int .i64 0, .map none], .bool false]) (by simp [results, Try.results38, go_sem, z0, z1]) rfl ?_
                  exact readPost_no hbad.out (by repeat (first | exact Below.refl _ _ | assumption | refine Below.drew ?_ | refine belowDrewN ?_ _ | refine Below.alloc ?_ (by first | exact Nat.le_refl _ | omega | (simp; done) | (simp; omega)) _ | refine Below.setCell ?_ (by first | exact Nat.le_refl _ | omega | (simp; done) | (simp; omega)) _))
        · have hin : i < n := by omega
          have hiI : (i : Int) < (n : Int) := by omega
          have i0 : (0 : Int) ≤ (i : Int) := by omega
          have hgk : 1 ≤ gk := by omega
          have HI := Lib.hid hi
          obtain ⟨b, off, u, rfl, hb, hx0, hu⟩ := H.out.get i hin
          obtain ⟨ai, ci, e, hci, hcm⟩ := hu.form
          subst e
          obtain ⟨ni, hni⟩ : ∃ ni, (rs.getD i []).length = ni := ⟨_, rfl⟩
          rw [hni] at hx0 hci hu
          have hx := (hbel.cell (p := ⟨b, off + i, none⟩) hb).trans hx0
          have HNI := Lib.hid hni
          clear hi hni hg
          by_cases hnn : ni = n
          · subst hnn
            have hne : ((ni : Int) != (ni : Int)) = false := by simp
            have HU := Lib.hid hu
            clear hu
            obtain ⟨w0, hw0⟩ : ∃ W, W = wr := ⟨_, rfl⟩
            subst hw0
            obtain ⟨G, hG⟩ : ∃ G, G = gk := ⟨_, rfl⟩
            go_wp2_with fail
            go_loopg [39] ni (fun g2 s39 wr => ∃ k : Nat, s39 = .int .i64 (k : Int) ∧ k + g2 = ni ∧ Hid (RR w wr ni (5 * i + k) (valTo rs ni i k)) ∧ Hid (∀ j, j < k → 0 ≤ relAt rs i j ∧ relAt rs i j ≤ 3))
            case atStart => exact ⟨0, rfl, by omega, S, Lib.hid fun j hj => by omega⟩
            case round =>
              clear S r0 r1 q0 q1 c0 c1 hbel hbig
              obtain ⟨k, rfl, hk, S, hno2⟩ := hrel
              have hbig := S.out.big
              have r0 := S.out.r0
              have r1 := S.out.r1
              have q0 := S.out.q0
              have q1 := S.out.q1
              have c0 := S.out.c0
              have c1 := S.out.c1
              have hbel := S.out.bel
              by_cases hg : gk = 0
              · subst hg
                obtain rfl : k = ni := by omega
                have hdn : decide ((k : Int) < (k : Int)) = false := by simp
                go_wp2_with fail
                go_roundg (G - 1)
                case measure => omega
                case rel =>
                  refine ⟨i + 1, by go_num, by have := HI.out; omega, Lib.hid (by rw [← valTo_row]; exact S.out.mono (by omega)), Lib.hid fun j hj => ?_⟩
                  by_cases hji : j = i
                  · subst hji; exact ⟨HNI.out, hno2.out⟩
                  · exact hno.out j (by omega)
              · have hkn : k < ni := by omega
                have hkI : (k : Int) < (ni : Int) := by omega
                have k0 : (0 : Int) ≤ (k : Int) := by omega
                have hgk2 : 1 ≤ gk := by omega
                have HK := Lib.hid hk
                obtain ⟨bi, offi, rfl, hbi, hz⟩ := (HU.out.below hbel).get k hkn
                replace hz : wr.cell? ⟨bi, offi + k, none⟩ = some (.int .i64 (relAt rs i k)) := hz
                obtain ⟨x, hxx⟩ : ∃ x, relAt rs i k = x := ⟨_, rfl⟩
                rw [hxx] at hz
                have HX := Lib.hid hxx
                clear hxx hk hg
                by_cases hx3 : 0 ≤ x ∧ x ≤ 3
                · obtain ⟨x0, x3⟩ := hx3
                  by_cases hxz : x = 0
                  · subst hxz
                    go_wp2_with fail
                    go_roundg (gk - 1)
                    case measure => omega
                    case rel => exact ⟨k + 1, by go_num, by have := HK.out; omega, Lib.hid (by rw [valTo_zero hkn HX.out]; exact S.out.mono (by omega)), Lib.hid fun j hj => by
                      by_cases hjk : j = k
                      · subst hjk; rw [HX.out]; omega
                      · exact hno2.out j (by omega)⟩
                  · have hxb : (x != 0) = true := by simp [hxz]
                    have HXZ := Lib.hid hxz
                    obtain ⟨D, hown, hrd⟩ := S.out.own
                    have HRD := Lib.hid hrd
                    clear hrd hxz
                    go_wp2_with (at_mapUpdate; refine wpList_mapUpdate_own _ rfl _ _ _ 65 rfl 101 3 cp_law Try.underlying65 (plainElem Try.prog 3) (w.heap.size + 1) (5 * i + k) D rfl hown (by unfold maxLen; omega) _ _ (ck ((i : Int) + 1) ((k : Int) + 1)) rfl rfl (cp_key (WalkArith.wf_i64 (by omega)) (WalkArith.wf_i64 (by omega))) (.lit (.int .i64 x)) [] (plainElem_int Try.underlying3 (WalkArith.wf_i64 (by omega))) ?_; intro w1 hown1 hgrow1; have S1 : Hid (RR w w1 ni (5 * i + k + 1) (valTo rs ni i (k + 1))) := Lib.hid (S.out.grown hgrow1 ⟨by omega, by omega, by omega⟩ ⟨_, hown1, by rw [valTo_step hkn, HX.out]; exact HRD.out.put (WalkArith.wf_i64 (by omega)) (WalkArith.wf_i64 (by omega)) HXZ.out⟩); clear hown1 hgrow1)
                    go_roundg (gk - 1)
                    case measure => omega
                    case rel => exact ⟨k + 1, by go_num, by have := HK.out; omega, S1, Lib.hid fun j hj => by
                      by_cases hjk : j = k
                      · subst hjk; rw [HX.out]; omega
                      · exact hno2.out j (by omega)⟩
                · have e := Lib.hid (rels_cell HN.out hin hkn (by rw [HX.out]; exact hx3))
                  by_cases hx0 : x < 0
                  · go_wp2_with fail
                    refine bodyPost_ret (v := .tuple #[.agg #[.int .i64 0, .map none], .bool false]) (by simp [results, Try.results38, go_sem, r0, r1]) rfl ?_
                    exact readPost_no e.out (by repeat (first | exact Below.refl _ _ | assumption | refine Below.drew ?_ | refine belowDrewN ?_ _ | refine Below.alloc ?_ (by first | exact Nat.le_refl _ | omega | (simp; done) | (simp; omega)) _ | refine Below.setCell ?_ (by first | exact Nat.le_refl _ | omega | (simp; done) | (simp; omega)) _))
                  · have hx4 : 3 < x := by omega
                    go_wp2_with fail
                    refine bodyPost_ret (v := .tuple #[.agg #[.int .i64 0, .map none], .bool false]) (by simp [results, Try.results38, go_sem, r0, r1]) rfl ?_
                    exact readPost_no e.out (by repeat (first | exact Below.refl _ _ | assumption | refine Below.drew ?_ | refine belowDrewN ?_ _ | refine Below.alloc ?_ (by first | exact Nat.le_refl _ | omega | (simp; done) | (simp; omega)) _ | refine Below.setCell ?_ (by first | exact Nat.le_refl _ | omega | (simp; done) | (simp; omega)) _))
          · have hne : ((ni : Int) != (n : Int)) = true := by simp; omega
            have e := Lib.hid (relsOk_bad1 HN.out hin (by rw [HNI.out]; exact hnn))
            go_wp2_with fail
            refine bodyPost_ret (v := .tuple #[.agg #[.int .i64 0, .map none], .bool false]) (by simp [results, Try.results38, go_sem, r0, r1]) rfl ?_
            exact readPost_no e.out (by repeat (first | exact Below.refl _ _ | assumption | refine Below.drew ?_ | refine belowDrewN ?_ _ | refine Below.alloc ?_ (by first | exact Nat.le_refl _ | omega | (simp; done) | (simp; omega)) _ | refine Below.setCell ?_ (by first | exact Nat.le_refl _ | omega | (simp; done) | (simp; omega)) _))
end Go.Proofs.Ytgpdkplpneklgaa
