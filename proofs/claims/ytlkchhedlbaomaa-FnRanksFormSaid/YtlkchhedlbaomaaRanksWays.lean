/- spec.l32Ways: waysOk. -/
import Derived.Test.YtlkchhedlbaomaaRanksCmp
namespace Go.Proofs.Ytlkchhedlbaomaa
open Go.RowKit
set_option linter.unusedVariables false

def InRel (row : List (List Int)) (p : List Int) (bv : Bool) (j : Nat) : Prop := (bv = true → stateOk row p = true) ∧ (bv = false → p ≠ [] ∧ ∀ i, i < j → row.getD i [] ≠ p)

set_option maxHeartbeats 4000000 in
theorem l32Ways_any (v u : Value) (r : List (List (List Int))) (ways : List (List Int)) (w : World) (hv : GridAt w v r) (hu : RowsAt w u ways) :
    Calls Try.prog 68 #[v, u] w fun e w' => e = .returned (.bool (waysOk r ways)) ∧ Drew w w' := by
  obtain ⟨a, cap, rfl, hc, hm⟩ := hv.form
  obtain ⟨ua, uc, rfl, huc, hum⟩ := hu.form
  obtain ⟨B, hB⟩ : ∃ B, waysOk r ways = B := ⟨_, rfl⟩
  rw [hB]
  obtain ⟨n, hn⟩ : ∃ n, ways.length = n := ⟨_, rfl⟩
  obtain ⟨n2, hn2⟩ : ∃ n, r.length = n := ⟨_, rfl⟩
  rw [hn] at huc hu ⊢
  rw [hn2] at hc hv ⊢
  have HB := Lib.hid hB
  have HN := Lib.hid hn
  have HN2 := Lib.hid hn2
  have H := Lib.hid hv
  have U := Lib.hid hu
  clear hB hn hn2 hv hu
  by_cases hnn : n = n2
  · subst hnn
    have hne : ((n : Int) != (n : Int)) = false := by simp
    go_enter Try.func68, Try.ntmps68
    go_wp2_with fail
    go_loopg [5] n (fun g i wr => ∃ k m : Nat, i = .int .i64 k ∧ k + g = n ∧ wr = w.drewN m ∧ Hid (∀ j, j < k → stateOk (r.getD j []) (ways.getD j []) = true))
    case atStart => exact ⟨0, 0, rfl, by omega, rfl, Lib.hid fun j hj => by omega⟩
    case round =>
      obtain ⟨k, m, rfl, hk, rfl, hno⟩ := hrel
      obtain ⟨g0, rfl⟩ : ∃ g : Nat, g = gk := ⟨_, rfl⟩
      by_cases hg : g0 = 0
      · subst hg
        obtain rfl : k = n := by omega
        have e := waysOk_good (r := r) (ways := ways) (by rw [HN.out, HN2.out]) (fun j hj => hno.out j (by rw [HN.out] at hj; omega))
        rw [HB.out] at e
        subst e
        go_wp2_with fail
        go_ret
        exact ⟨rfl, m, rfl⟩
      · have hkn : k < n := by omega
        have b1 : (k : Int) < (n : Int) := by omega
        obtain ⟨b, off, v1, rfl, hb, hx, hr⟩ := H.out.get k hkn
        obtain ⟨ra, rc, rfl, hrc, hrm⟩ := hr.form
        obtain ⟨ub, uoff, v2, rfl, hub, hux, hp⟩ := U.out.get k hkn
        obtain ⟨pa, pc, rfl, hpc, hpm⟩ := hp.form
        obtain ⟨row, hrow⟩ : ∃ row, r.getD k [] = row := ⟨_, rfl⟩
        obtain ⟨p, hpp⟩ : ∃ p, ways.getD k [] = p := ⟨_, rfl⟩
        rw [hrow] at hx hr hrc
        rw [hpp] at hux hp hpc
        obtain ⟨rn, hrn⟩ : ∃ rn, row.length = rn := ⟨_, rfl⟩
        obtain ⟨pn, hpn⟩ : ∃ pn, p.length = pn := ⟨_, rfl⟩
        rw [hrn] at hx hr hrc
        rw [hpn] at hux hp hpc
        obtain ⟨e0, he0⟩ : ∃ e0, ((pn : Int) == 0) = e0 := ⟨_, rfl⟩
        have HE0 := Lib.hid he0
        have HROW := Lib.hid hrow
        have HPP := Lib.hid hpp
        have HRN := Lib.hid hrn
        have HPN := Lib.hid hpn
        have HR := Lib.hid hr
        have HP := Lib.hid hp
        have HK := Lib.hid hk
        clear hrow hpp hrn hpn hr hp hk
        go_wp2_with fail
        go_loopg [6, 7] rn (fun g s i wr => ∃ (bv : Bool) (j q : Nat), s = .bool bv ∧ i = .int .i64 j ∧ j + g = rn ∧ wr = w.drewN q ∧ InRel row p bv j)
        case atStart =>
          refine ⟨_, 0, m, rfl, rfl, by omega, rfl, fun h => ?_, fun h => ⟨?_, fun i hi => by omega⟩⟩
          · have e := HE0.out
            rw [h] at e
            have : p = [] := List.length_eq_zero_iff.mp (by rw [HPN.out]; simpa using e)
            rw [this]; exact stateOk_nil _
          · intro e2
            have e := HE0.out
            rw [h] at e
            rw [e2] at HPN
            have := HPN.out
            simp at this
            subst this
            simp at e
        case round =>
          obtain ⟨bv, j, q, rfl, rfl, hj, rfl, hin⟩ := hrel
          by_cases hg1 : gk = 0
          · subst hg1
            obtain rfl : j = rn := by omega
            cases bv
            · have e := HB.out
              rw [waysOk_bad (h := k) (by rw [HN.out]; exact hkn) (by rw [HROW.out, HPP.out]; exact stateOk_no (hin.2 rfl).1 (by rw [HRN.out]; exact (hin.2 rfl).2))] at e
              subst e
              go_wp2_with fail
              go_ret
              exact ⟨rfl, by repeat (first | exact Drew.refl _ | assumption | refine Drew.more ?_ _)⟩
            · go_wp2_with fail
              go_roundg (g0 - 1)
              case measure => omega
              case rel =>
                refine ⟨k + 1, q, by go_num, by have := HK.out; omega, rfl, Lib.hid fun i hi => ?_⟩
                by_cases hik : i = k
                · subst hik; rw [HROW.out, HPP.out]; exact hin.1 rfl
                · exact hno.out i (by omega)
          · have hjn : j < rn := by omega
            have b2 : (j : Int) < (rn : Int) := by omega
            obtain ⟨rb, roff, v3, rfl, hrb, hx3, hi⟩ := HR.out.get j hjn
            obtain ⟨c, hcc⟩ : ∃ c, cmpF (row.getD j []) p = c := ⟨_, rfl⟩
            have hcmp : ∀ W, Drew w W → Calls Try.prog 56 #[v3, .slice pa pn pc] W fun e w' => e = .returned (.int .i64 c) ∧ Drew W w' := fun W hW => by rw [← hcc]; exact cmp_any _ _ _ _ _ (hi.drew hW) (HP.out.drew hW)
            have HC := Lib.hid hcc
            have HCM := Lib.hid hcmp
            have HJ := Lib.hid hj
            clear hcc hcmp hi hj
            cases bv
            · by_cases hc0 : c = 0
              · subst hc0
                go_wp2_with fail
                go_quiet ((go_at_call 56; (first | refine quietA (HCM.out _ ?_) | refine quietB (HCM.out _ ?_)); repeat (first | exact Drew.refl _ | assumption | refine Drew.more ?_ _)))
                go_wp2_with fail
                go_roundg (gk - 1)
                case measure => omega
                case rel =>
                  refine ⟨true, j + 1, q + nq, rfl, by go_num, by have := HJ.out; omega, rfl, fun _ => ?_, fun h => by cases h⟩
                  exact stateOk_mem (by rw [HRN.out]; exact hjn) ((cmpF_zero _ _).1 HC.out)
              · have hc0' : (c == 0) = false := by simp [hc0]
                have HC0 := Lib.hid hc0
                clear hc0
                go_wp2_with fail
                go_quiet ((go_at_call 56; (first | refine quietA (HCM.out _ ?_) | refine quietB (HCM.out _ ?_)); repeat (first | exact Drew.refl _ | assumption | refine Drew.more ?_ _)))
                go_wp2_with fail
                go_roundg (gk - 1)
                case measure => omega
                case rel =>
                  refine ⟨false, j + 1, q + nq, rfl, by go_num, by have := HJ.out; omega, rfl, ⟨fun h => (by cases h), fun _ => ⟨(hin.2 rfl).1, fun i hi => ?_⟩⟩⟩
                  by_cases hik : i = j
                  · subst hik; intro e; exact HC0.out (by rw [← HC.out]; exact (cmpF_zero _ _).2 e)
                  · exact (hin.2 rfl).2 i (by omega)
            · go_wp2_with fail
              go_quiet (fail)
              go_wp2_with fail
              go_roundg (gk - 1)
              case measure => omega
              case rel => exact ⟨true, j + 1, q + nq, rfl, by go_num, by have := HJ.out; omega, rfl, fun _ => hin.1 rfl, fun h => by cases h⟩
  · have hne : ((n : Int) != (n2 : Int)) = true := by simp; omega
    have hB : B = false := by rw [← HB.out]; exact waysOk_len (by rw [HN.out, HN2.out]; exact hnn)
    subst hB
    clear hnn
    go_enter Try.func68, Try.ntmps68
    go_wp2_with fail
    go_ret
    exact ⟨rfl, Drew.refl _⟩
end Go.Proofs.Ytlkchhedlbaomaa
