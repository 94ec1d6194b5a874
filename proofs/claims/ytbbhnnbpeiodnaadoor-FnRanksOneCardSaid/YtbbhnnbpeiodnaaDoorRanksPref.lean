/- impl.preferred. -/
import Derived.Test.YtbbhnnbpeiodnaaDoorRanksSl2
namespace Go.Proofs.YtbbhnnbpeiodnaaDoor
open Go.RowKit
set_option linter.unusedVariables false

theorem IntsAt.drop1 {w : World} {b off n cap : Nat} {l : List Int} (h : IntsAt w (.slice (some ⟨b, off, none⟩) n cap) l) (h1 : 1 ≤ n) : IntsAt w (.slice (some ⟨b, off + 1, none⟩) (n - 1) (cap - 1)) (l.drop 1) := by
  obtain ⟨rfl, hc, hm⟩ := h.len
  obtain ⟨a', cap', e, hc', hm', g⟩ := h
  simp only [Value.slice.injEq] at e
  obtain ⟨rfl, _, rfl⟩ := e
  have hl : (l.drop 1).length = l.length - 1 := by simp
  refine ⟨some ⟨b, off + 1, none⟩, cap - 1, by rw [hl], by rw [hl]; omega, by unfold maxLen; omega, ?_⟩
  rcases g with g | ⟨b', off', e, hlt, hcell⟩
  · omega
  · simp only [Option.some.injEq, Addr.mk.injEq] at e
    obtain ⟨rfl, rfl, _⟩ := e
    refine .inr ⟨b, off + 1, rfl, hlt, fun i hi => ?_⟩
    rw [hl] at hi
    have := hcell (i + 1) (by omega)
    rw [show off + 1 + i = off + (i + 1) by omega, this]
    simp

set_option maxHeartbeats 4000000 in
theorem preferred_any (v u : Value) (r : List (List (List Int))) (ways : List (List Int)) (h : Nat) (w : World) (hv : GridAt w v r) (hu : RowsAt w u ways)
    (hr3 : r.length = 3) (hu3 : ways.length = 3) (hh : h < 3) (hgood : ∀ p, p ∈ r.getD h [] → GoodWay p) :
    Calls Tryd.prog 19 #[v, u, .int .i64 ((h : Int) + 1)] w fun e w' => ∃ v', e = .returned v' ∧ OwnInts w' w.heap.size v' (pickF (r.getD h []) ways) ∧ Below w.heap.size w w' := by
  obtain ⟨a, cap, rfl, hc, hm⟩ := hv.form
  obtain ⟨ua, uc, rfl, huc, hum⟩ := hu.form
  rw [hr3] at hc hv ⊢
  rw [hu3] at huc hu ⊢
  obtain ⟨b, off, v1, rfl, hb, hx, hr⟩ := hv.get h (by omega)
  obtain ⟨ra, rc, rfl, hrc, hrm⟩ := hr.form
  obtain ⟨row, hrow⟩ : ∃ row, r.getD h [] = row := ⟨_, rfl⟩
  rw [hrow] at hx hr hrc hgood ⊢
  obtain ⟨rn, hrn⟩ : ∃ rn, row.length = rn := ⟨_, rfl⟩
  rw [hrn] at hx hr hrc
  have HRN := Lib.hid hrn
  have HR := Lib.hid hr
  have U := Lib.hid hu
  have HU3 := Lib.hid hu3
  have HG := Lib.hid hgood
  clear hrow hrn hr hu hu3 hgood hr3 hv
  have i1 : (h : Int) + 1 - 1 = (h : Int) := by omega
  go_enter Tryd.func19, Tryd.ntmps19
  go_wp2_with fail
  go_loopg [15] rn (fun g i wr => ∃ k m : Nat, i = .int .i64 k ∧ k + g = rn ∧ wr = w.drewN m ∧ Hid (∀ j, j < k → pickHit ways (row.getD j []) = false))
  case atStart => exact ⟨0, 0, rfl, by omega, rfl, Lib.hid fun j hj => by omega⟩
  case round =>
    obtain ⟨k, m, rfl, hk, rfl, hno⟩ := hrel
    by_cases hg : gk = 0
    · subst hg
      obtain rfl : k = rn := by omega
      go_wp2_with fail
      go_ret
      refine ⟨_, rfl, ?_, by repeat (first | exact Below.refl _ _ | assumption | refine Below.drew ?_ | refine belowDrewN ?_ _ | refine Below.alloc ?_ (by first | exact Nat.le_refl _ | omega | (simp; done) | (simp; omega)) _ | refine Below.setCell ?_ (by first | exact Nat.le_refl _ | omega | (simp; done) | (simp; omega)) _)⟩
      rw [pickF_miss (by rw [HRN.out]; exact hno.out)]
      exact World.ownsRow_nil _ _ _ _
    · have hkn : k < rn := by omega
      obtain ⟨rb, roff, v2, rfl, hrb, hx2, hp⟩ := HR.out.get k hkn
      obtain ⟨pa, pc, rfl, hpc, hpm⟩ := hp.form
      obtain ⟨p, hpp⟩ : ∃ p, row.getD k [] = p := ⟨_, rfl⟩
      rw [hpp] at hx2 hp hpc
      have hgw : GoodWay p := HG.out p (by
        have e : row.getD k [] = row[k]'(by rw [HRN.out]; exact hkn) := by simp [List.getElem?_eq_getElem (by rw [HRN.out]; exact hkn : k < row.length)]
        rw [← hpp, e]; exact List.getElem_mem _)
      obtain ⟨gl, gu, gs⟩ := hgw
      obtain ⟨q, hq⟩ : ∃ q, p.length = q + 2 := ⟨p.length - 2, by omega⟩
      rw [hq] at hx2 hp hpc gl gu
      obtain ⟨pb, poff, rfl, hpb, hx3⟩ := hp.get 1 (by omega)
      have hd := hp.drop1 (by omega)
      obtain ⟨y, hy⟩ : ∃ y, p.getD 1 0 = y := ⟨_, rfl⟩
      rw [hy] at hx3 gs
      have hclone : ∀ W, Drew w W → Calls Tryd.prog 29 #[.slice (some ⟨pb, poff, none⟩) (q + 2) pc] W fun e w' => ∃ v', e = .returned v' ∧ OwnInts w' W.heap.size v' p ∧ Below W.heap.size W w' := fun W hW => slClone_any _ p W (hp.drew hW) (by omega)
      have HPP := Lib.hid hpp
      have HY := Lib.hid hy
      have HQ := Lib.hid hq
      have HK := Lib.hid hk
      have HCL := Lib.hid hclone
      have HP := Lib.hid hp
      have HD := Lib.hid hd
      clear hpp hy hq hk hclone hp hd
      by_cases y0 : y = 0
      · subst y0
        have hhit : pickHit ways p = true := by unfold pickHit; rw [HY.out]; simp
        have HH := Lib.hid hhit
        clear hhit
        have e := pickF_hit (by rw [HRN.out]; exact hkn) (by rw [HPP.out]; exact HH.out) hno.out
        rw [HPP.out] at e
        have HE := Lib.hid e
        clear e
        go_wp2_with fail
        go_quiet (fail)
        go_wp2_with (go_at_call 29; refine (HCL.out _ ?_).mono ?_; (repeat (first | exact Drew.refl _ | assumption | refine Drew.more ?_ _)); rintro e w1 ⟨v', rfl, ho, hb1⟩)
        go_ret
        exact ⟨_, rfl, by rw [HE.out]; exact ho, by first | exact hb1 | exact Below.trans (by repeat (first | exact Below.refl _ _ | assumption | refine Below.drew ?_ | refine belowDrewN ?_ _ | refine Below.alloc ?_ (by first | exact Nat.le_refl _ | omega | (simp; done) | (simp; omega)) _ | refine Below.setCell ?_ (by first | exact Nat.le_refl _ | omega | (simp; done) | (simp; omega)) _)) hb1⟩
      · obtain ⟨j, rfl⟩ : ∃ j : Nat, y = (j : Int) + 1 := ⟨(y - 1).toNat, by omega⟩
        have hj3 : j < 3 := by omega
        obtain ⟨ub, uoff, v3, rfl, hub, hx4, hw⟩ := U.out.get j hj3
        obtain ⟨wv, hwv⟩ : ∃ x, ways.getD j [] = x := ⟨_, rfl⟩
        rw [hwv] at hw
        obtain ⟨c, hcc⟩ : ∃ c, decide (p.drop 1 = wv) = c := ⟨_, rfl⟩
        have heq : ∀ W, Drew w W → Calls Tryd.prog 28 #[.slice (some ⟨pb, poff + 1, none⟩) (q + 2 - 1) (pc - 1), v3] W fun e w' => e = .returned (.bool c) ∧ Drew W w' := fun W hW => by
          rw [← hcc]; exact slEqual_any _ _ _ _ _ (HD.out.drew hW) (hw.drew hW)
        have hph : pickHit ways p = c := by
          unfold pickHit
          rw [HY.out, ← hcc]
          have e1 : ((j : Int) + 1 - 1).toNat = j := by omega
          rw [e1, hwv]
          have e2 : decide ((j : Int) + 1 = 0) = false := by simp; omega
          rw [e2, Bool.false_or, Bool.eq_iff_iff, decide_eq_true_eq, decide_eq_true_eq]
          exact eq_comm
        have HPH := Lib.hid hph
        have HEQ := Lib.hid heq
        clear hwv hw hcc heq hph gs
        have yb : (((j : Int) + 1) == 0) = false := by simp; omega
        cases c
        · go_wp2_with fail
          go_quiet ((go_at_call 28; (first | refine quietA (HEQ.out _ ?_) | refine quietB (HEQ.out _ ?_)); repeat (first | exact Drew.refl _ | assumption | refine Drew.more ?_ _)))
          go_wp2_with fail
          go_roundg (gk - 1)
          case measure => omega
          case rel =>
            refine ⟨k + 1, m + nq, by go_num, by have := HK.out; omega, rfl, Lib.hid fun i hi => ?_⟩
            by_cases hik : i = k
            · subst hik; rw [HPP.out, HPH.out]
            · exact hno.out i (by omega)
        · have e := pickF_hit (by rw [HRN.out]; exact hkn) (by rw [HPP.out]; exact HPH.out) hno.out
          rw [HPP.out] at e
          have HE := Lib.hid e
          clear e
          go_wp2_with fail
          go_quiet ((go_at_call 28; (first | refine quietA (HEQ.out _ ?_) | refine quietB (HEQ.out _ ?_)); repeat (first | exact Drew.refl _ | assumption | refine Drew.more ?_ _)))
          go_wp2_with (go_at_call 29; refine (HCL.out _ ?_).mono ?_; (repeat (first | exact Drew.refl _ | assumption | refine Drew.more ?_ _)); rintro e w1 ⟨v', rfl, ho, hb1⟩)
          go_ret
          exact ⟨_, rfl, by rw [HE.out]; exact ho, by first | exact hb1 | exact Below.trans (by repeat (first | exact Below.refl _ _ | assumption | refine Below.drew ?_ | refine belowDrewN ?_ _ | refine Below.alloc ?_ (by first | exact Nat.le_refl _ | omega | (simp; done) | (simp; omega)) _ | refine Below.setCell ?_ (by first | exact Nat.le_refl _ | omega | (simp; done) | (simp; omega)) _)) hb1⟩
end Go.Proofs.YtbbhnnbpeiodnaaDoor
