/- spec.l32Pick. -/
import Derived.Test.YtbbhnnbpeiodnaaDoorRanksPref
import Derived.Test.YtbbhnnbpeiodnaaDoorRanksCmp
namespace Go.Proofs.YtbbhnnbpeiodnaaDoor
open Go.RowKit
set_option linter.unusedVariables false

set_option maxHeartbeats 4000000 in
theorem l32Pick_any (v u : Value) (r : List (List (List Int))) (ways : List (List Int)) (h : Nat) (w : World) (hv : GridAt w v r) (hu : RowsAt w u ways)
    (hr3 : r.length = 3) (hu3 : ways.length = 3) (hh : h < 3) (hgood : ∀ p, p ∈ r.getD h [] → GoodWay p) :
    Calls Tryd.prog 15 #[v, u, .int .i64 ((h : Int) + 1)] w fun e w' => ∃ v', e = .returned v' ∧ OwnInts w' w.heap.size v' (pickF (r.getD h []) ways) ∧ Below w.heap.size w w' := by
  obtain ⟨a, cap, rfl, hc, hm⟩ := hv.form
  obtain ⟨ua, uc, rfl, huc, hum⟩ := hu.form
  rw [hr3] at hc hv ⊢
  rw [hu3] at huc hu ⊢
  obtain ⟨b, off, v1, rfl, hb, hx, hr⟩ := hv.get h (by omega)
  obtain ⟨ra, rc, rfl, hrc, hrm⟩ := hr.form
  obtain ⟨row, hrow⟩ : ∃ row, r.getD h [] = row := ⟨_, rfl⟩
  rw [hrow] at hx hr hrc hgood ⊢
  obtain ⟨rn, hrn⟩ : ∃ rn, row.length = rn := ⟨_, rfl⟩
  rw [hrn] at hx hr hrc
  have HRN := Lib.hid hrn
  have HR := Lib.hid hr
  have U := Lib.hid hu
  have HU3 := Lib.hid hu3
  have HG := Lib.hid hgood
  clear hrow hrn hr hu hu3 hgood hr3 hv
  have i1 : (h : Int) + 1 - 1 = (h : Int) := by omega
  obtain ⟨i0, hi, hz0, hz1, hz2⟩ := info_parts info_intR
  go_enter Tryd.func15, Tryd.ntmps15
  go_wp2_with fail
  go_loopg [7] rn (fun g i wr => ∃ k m : Nat, i = .int .i64 k ∧ k + g = rn ∧ wr = w.drewN m ∧ Hid (∀ j, j < k → pickHit ways (row.getD j []) = false))
  case atStart => exact ⟨0, 0, rfl, by omega, rfl, Lib.hid fun j hj => by omega⟩
  case round =>
    obtain ⟨k, m, rfl, hk, rfl, hno⟩ := hrel
    by_cases hg : gk = 0
    · subst hg
      obtain rfl : k = rn := by omega
      go_wp2_with fail
      go_ret
      refine ⟨_, rfl, ?_, by repeat (first | exact Below.refl _ _ | assumption | refine Below.drew ?_ | refine belowDrewN ?_ _ | refine Below.alloc ?_ (by first | exact Nat.le_refl _ | omega | (simp; done) | (simp; omega)) _ | refine Below.setCell ?_ (by first | exact Nat.le_refl _ | omega | (simp; done) | (simp; omega)) _)⟩
      rw [pickF_miss (by rw [HRN.out]; exact hno.out)]
      exact World.ownsRow_made _ #[] 0 (Nat.le_refl _) (Nat.zero_le _) rfl
    · have hkn : k < rn := by omega
      obtain ⟨rb, roff, v2, rfl, hrb, hx2, hp⟩ := HR.out.get k hkn
      obtain ⟨pa, pc, rfl, hpc, hpm⟩ := hp.form
      obtain ⟨p, hpp⟩ : ∃ p, row.getD k [] = p := ⟨_, rfl⟩
      rw [hpp] at hx2 hp hpc
      have hgw : GoodWay p := HG.out p (by
        have e : row.getD k [] = row[k]'(by rw [HRN.out]; exact hkn) := by simp [List.getElem?_eq_getElem (by rw [HRN.out]; exact hkn : k < row.length)]
        rw [← hpp, e]; exact List.getElem_mem _)
      obtain ⟨gl, gu, gs⟩ := hgw
      obtain ⟨q, hq⟩ : ∃ q, p.length = q + 2 := ⟨p.length - 2, by omega⟩
      rw [hq] at hx2 hp hpc gl gu
      obtain ⟨pb, poff, rfl, hpb, hx3⟩ := hp.get 1 (by omega)
      have hd := hp.drop1 (by omega)
      obtain ⟨y, hy⟩ : ∃ y, p.getD 1 0 = y := ⟨_, rfl⟩
      rw [hy] at hx3 gs
      have hq4 : q ≤ 2 := by omega
      have HPP := Lib.hid hpp
      have HY := Lib.hid hy
      have HQ := Lib.hid hq
      have HK := Lib.hid hk
      have HP := Lib.hid hp
      have HD := Lib.hid hd
      clear hpp hy hq hk hp hd
      by_cases y0 : y = 0
      · subst y0
        have hhit : pickHit ways p = true := by unfold pickHit; rw [HY.out]; simp
        have HH := Lib.hid hhit
        clear hhit
        have e := pickF_hit (by rw [HRN.out]; exact hkn) (by rw [HPP.out]; exact HH.out) hno.out
        rw [HPP.out] at e
        have HE := Lib.hid e
        clear e
        go_wp2_with fail
        go_quiet (fail)
        go_wp2_with (at_builtin; refine wpList_append_own _ rfl _ _ 24 rfl w.heap.size 3 i0 (.int .i64 0) 1 8 Tryd.underlying24 hi hz0 hz1 hz2 rfl (by decide) _ _ _ rfl (World.ownsRow_made _ #[] 0 ?qb (Nat.zero_le _) rfl) ⟨pb, poff, none⟩ (q + 2) pc (p.map (Value.int .i64)) rfl ?qc1 ?qc2 ?qc3 ?qc4 ?qc5 ?qc6 ?_)
        case qb => exact Nat.le_refl _
        case qc1 => simpa using HQ.out
        case qc2 =>
          intro j u hj
          have hjn : j < p.length := by
            have := (List.getElem?_eq_some_iff.1 hj).1
            simpa using this
          obtain ⟨b', off', e, hb', hx'⟩ := HP.out.get j (by rw [← HQ.out]; exact hjn)
          simp only [Option.some.injEq, Addr.mk.injEq] at e
          obtain ⟨rfl, rfl, _⟩ := e
          rw [Addr.add_lit]
          refine Lib.cell?_alloc_some _ ?_
          have e : (p.map (Value.int .i64))[j]? = some (Value.int .i64 (p.getD j 0)) := by simp [List.getD, List.getElem?_eq_getElem hjn]
          rw [e] at hj
          have e2 := Option.some.inj hj
          rw [← e2]
          exact hx'
        case qc3 => intro u hu; obtain ⟨x, _, rfl⟩ := List.mem_map.1 hu; rfl
        case qc4 => unfold maxLen; omega
        case qc5 => omega
        case qc6 => simp
        intro v' w1 hown hgrow hnil
        have ho : OwnInts w1 w.heap.size v' p := by unfold OwnInts; rw [HQ.out]; simpa using hown
        have hb1 : Below w.heap.size w w1 := by
          refine Below.grown (w := (w.drewN _).alloc _) (by repeat (first | exact Below.refl _ _ | assumption | refine Below.drew ?_ | refine belowDrewN ?_ _ | refine Below.alloc ?_ (by first | exact Nat.le_refl _ | omega | (simp; done) | (simp; omega)) _ | refine Below.setCell ?_ (by first | exact Nat.le_refl _ | omega | (simp; done) | (simp; omega)) _)) hgrow (by simp) (by intro k hk; simp [Value.ownBlock] at hk; omega)
        clear hown hgrow hnil
        go_wp2_with fail
        go_ret
        exact ⟨_, rfl, by rw [HE.out]; exact ho, hb1⟩
      · obtain ⟨j, rfl⟩ : ∃ j : Nat, y = (j : Int) + 1 := ⟨(y - 1).toNat, by omega⟩
        have hj3 : j < 3 := by omega
        obtain ⟨ub, uoff, v3, rfl, hub, hx4, hw⟩ := U.out.get j hj3
        obtain ⟨wv, hwv⟩ : ∃ x, ways.getD j [] = x := ⟨_, rfl⟩
        rw [hwv] at hw
        obtain ⟨c, hcc⟩ : ∃ c, cmpF wv (p.drop 1) = c := ⟨_, rfl⟩
        have heq : ∀ W, Drew w W → Calls Tryd.prog 23 #[v3, .slice (some ⟨pb, poff + 1, none⟩) (q + 2 - 1) (pc - 1)] W fun e w' => e = .returned (.int .i64 c) ∧ Drew W w' := fun W hW => by
          rw [← hcc]; exact cmp_any _ _ _ _ _ (hw.drew hW) (HD.out.drew hW)
        have hph : pickHit ways p = (c == 0) := by
          unfold pickHit
          rw [HY.out, ← hcc]
          have e1 : ((j : Int) + 1 - 1).toNat = j := by omega
          rw [e1, hwv]
          have e2 : decide ((j : Int) + 1 = 0) = false := by simp; omega
          rw [e2, Bool.false_or, Bool.eq_iff_iff, decide_eq_true_eq, beq_iff_eq]
          exact (cmpF_zero _ _).symm
        have HPH := Lib.hid hph
        have HEQ := Lib.hid heq
        clear hwv hw hcc heq hph gs
        have yb : (((j : Int) + 1) == 0) = false := by simp; omega
        by_cases hc0 : c = 0
        case neg =>
          have hc0' : (c == 0) = false := by simp [hc0]
          clear hc0
          go_wp2_with fail
          go_quiet ((go_at_call 23; (first | refine quietA (HEQ.out _ ?_) | refine quietB (HEQ.out _ ?_)); repeat (first | exact Drew.refl _ | assumption | refine Drew.more ?_ _)))
          go_wp2_with fail
          go_roundg (gk - 1)
          case measure => omega
          case rel =>
            refine ⟨k + 1, m + nq, by go_num, by have := HK.out; omega, rfl, Lib.hid fun i hi => ?_⟩
            by_cases hik : i = k
            · subst hik; rw [HPP.out, HPH.out]; exact hc0'
            · exact hno.out i (by omega)
        case pos =>
          subst hc0
          have e := pickF_hit (by rw [HRN.out]; exact hkn) (by rw [HPP.out]; exact HPH.out) hno.out
          rw [HPP.out] at e
          have HE := Lib.hid e
          clear e
          go_wp2_with fail
          go_quiet ((go_at_call 23; (first | refine quietA (HEQ.out _ ?_) | refine quietB (HEQ.out _ ?_)); repeat (first | exact Drew.refl _ | assumption | refine Drew.more ?_ _)))
          go_wp2_with (at_builtin; refine wpList_append_own _ rfl _ _ 24 rfl w.heap.size 3 i0 (.int .i64 0) 1 8 Tryd.underlying24 hi hz0 hz1 hz2 rfl (by decide) _ _ _ rfl (World.ownsRow_made _ #[] 0 ?qb (Nat.zero_le _) rfl) ⟨pb, poff, none⟩ (q + 2) pc (p.map (Value.int .i64)) rfl ?qc1 ?qc2 ?qc3 ?qc4 ?qc5 ?qc6 ?_)
          case qb => exact Nat.le_refl _
          case qc1 => simpa using HQ.out
          case qc2 =>
            intro j u hj
            have hjn : j < p.length := by
              have := (List.getElem?_eq_some_iff.1 hj).1
              simpa using this
            obtain ⟨b', off', e, hb', hx'⟩ := HP.out.get j (by rw [← HQ.out]; exact hjn)
            simp only [Option.some.injEq, Addr.mk.injEq] at e
            obtain ⟨rfl, rfl, _⟩ := e
            rw [Addr.add_lit]
            refine Lib.cell?_alloc_some _ ?_
            have e : (p.map (Value.int .i64))[j]? = some (Value.int .i64 (p.getD j 0)) := by simp [List.getD, List.getElem?_eq_getElem hjn]
            rw [e] at hj
            have e2 := Option.some.inj hj
            rw [← e2]
            exact hx'
          case qc3 => intro u hu; obtain ⟨x, _, rfl⟩ := List.mem_map.1 hu; rfl
          case qc4 => unfold maxLen; omega
          case qc5 => omega
          case qc6 => simp
          intro v' w1 hown hgrow hnil
          have ho : OwnInts w1 w.heap.size v' p := by unfold OwnInts; rw [HQ.out]; simpa using hown
          have hb1 : Below w.heap.size w w1 := by
            refine Below.grown (w := (w.drewN _).alloc _) (by repeat (first | exact Below.refl _ _ | assumption | refine Below.drew ?_ | refine belowDrewN ?_ _ | refine Below.alloc ?_ (by first | exact Nat.le_refl _ | omega | (simp; done) | (simp; omega)) _ | refine Below.setCell ?_ (by first | exact Nat.le_refl _ | omega | (simp; done) | (simp; omega)) _)) hgrow (by simp) (by intro k hk; simp [Value.ownBlock] at hk; omega)
          clear hown hgrow hnil
          go_wp2_with fail
          go_ret
          exact ⟨_, rfl, by rw [HE.out]; exact ho, hb1⟩
end Go.Proofs.YtbbhnnbpeiodnaaDoor
