/- impl.TableLess, walked. -/
import Derived.Test.YtnjkifnlimfhnaaLessI
namespace Go.Proofs.Ytnjkifnlimfhnaa
open Go.RowKit
set_option linter.unusedVariables false

theorem tabs_two {W : World} {s1 s2 : Value} {l1 l2 : List Ent} (h1 : EntsAt W s1 l1) (h2 : EntsAt W s2 l2) (T : TypeId) : TabsAt (W.alloc (.cells #[s1, s2] T)) (.slice (some ⟨W.heap.size, 0, none⟩) 2 2) [l1, l2] := by
  have hA := Below.alloc (Below.refl W.heap.size W) (Nat.le_refl _) (.cells #[s1, s2] T)
  refine ⟨fun i => if i = 0 then s1 else s2, ⟨_, 2, rfl, Nat.le_refl _, by unfold maxLen; omega, .inr ⟨W.heap.size, 0, rfl, by simp, fun i hi => ?_⟩⟩, fun i hi => ?_⟩
  · have hi2 : i = 0 ∨ i = 1 := by simp at hi; omega
    rcases hi2 with rfl | rfl <;> simp
  · have hi2 : i = 0 ∨ i = 1 := by simp at hi; omega
    rcases hi2 with rfl | rfl
    · exact h1.below hA
    · exact h2.below hA
def LessPost (l : List Ent) (w : World) (e : Ending) (w' : World) : Prop := ∃ (v' : Value) (l' : List Ent), e = .returned v' ∧ EntNew w' w.heap.size v' l' ∧ (tableOkF l = true → tableOkF l' = true ∧ SameF l' l) ∧ Below w.heap.size w w'
theorem less_ret {l l' : List Ent} {w w' : World} {v' : Value} (h1 : EntNew w' w.heap.size v' l') (h2 : tableOkF l = true → tableOkF l' = true ∧ SameF l' l) (h3 : Below w.heap.size w w') : LessPost l w (.returned v') w' := ⟨v', l', rfl, h1, h2, h3⟩
set_option maxRecDepth 100000 in
set_option maxHeartbeats 2000000 in
theorem tableLess_any (v : Value) (l : List Ent) (w : World) (h : EntsAt w v l) :
    Calls Try.prog 8 #[v] w (LessPost l w) := by
  have hok := implTableOk_any v l w h
  obtain ⟨a, cap, rfl, hc, hm⟩ := h.form
  obtain ⟨B, hB⟩ : ∃ B, tableOkF l = B := ⟨_, rfl⟩
  rw [hB] at hok
  have HOK := Lib.hid hok
  have H := Lib.hid h
  have HB := Lib.hid hB
  clear hok h hB
  cases B
  · go_enter Try.func8, Try.ntmps8
    go_wp2_with fail
    refine HOK.out.mono ?_
    rintro e w1 ⟨rfl, hb1⟩
    have B1 := Lib.hid hb1
    clear hb1
    go_wp2_with fail
    go_ret
    exact less_ret (EntNew.nil _ _) (fun h => by rw [HB.out] at h; cases h) B1.out
  · have hl12 := (tableOk_all HB.out).1
    have HCL := Lib.hid (fun W (hW : Below w.heap.size w W) => slCloneE_any _ l W (H.out.below hW) (by omega))
    go_enter Try.func8, Try.ntmps8
    go_wp2_with fail
    refine HOK.out.mono ?_
    rintro e w1 ⟨rfl, hb1⟩
    have B1 := Lib.hid hb1
    clear hb1
    go_wp2_with fail
    refine (HCL.out w1 B1.out).mono ?_
    rintro e w2 ⟨v2, rfl, hE2, hb2⟩
    have E2 := Lib.hid (hE2.lift B1.out.size)
    have B2 := Lib.hid (B1.out.trans (hb2.mono B1.out.size))
    clear hE2 hb2
    go_wp2_with fail
    go_loopg [3, 4] l.length (fun gk s3 s4 wr => ∃ (k : Nat) (out : List Ent), s4 = .int .i64 (k : Int) ∧ k + gk = out.length ∧ Hid (EntNew wr w.heap.size s3 out) ∧ Hid (tableOkF out = true) ∧ Hid (SameF out l) ∧ Hid (Below w.heap.size w wr))
    case atStart => exact ⟨0, l, rfl, by omega, E2, HB, Lib.hid (SameF.refl l), B2⟩
    case round =>
      clear E2 B2 B1
      obtain ⟨k, out, rfl, hk, E, TO, SF, B⟩ := hrel
      obtain ⟨oa, oc, e, hoc, hom⟩ := E.out.form
      subst e
      obtain ⟨m, hm'⟩ : ∃ m, out.length = m := ⟨_, rfl⟩
      have hm12 : m ≤ 12 := by rw [← hm']; exact (tableOk_all TO.out).1
      rw [hm'] at E hoc hk ⊢
      have HM := Lib.hid hm'
      clear hm'
      have hsw : w.heap.size ≤ wr.heap.size := B.out.size
      by_cases hg : gk = 0
      · subst hg
        obtain rfl : k = m := by omega
        have hdn : decide ((k : Int) < (k : Int)) = false := by simp
        go_wp2_with fail
        go_ret
        exact less_ret E.out (fun _ => ⟨TO.out, SF.out⟩) B.out
      · have hkm : k < m := by omega
        have hkI : (k : Int) < (m : Int) := by omega
        have k0 : (0 : Int) ≤ (k : Int) := by omega
        have hkm0 : k ≤ m := by omega
        have hkm1 : k + 1 ≤ m := by omega
        have hk1I : (k : Int) + 1 ≤ (m : Int) := by omega
        have hk10 : (0 : Int) ≤ (k : Int) + 1 := by omega
        have hkc : (k : Int) ≤ (oc : Int) := by omega
        have hkk : (k : Int) ≤ (k : Int) + 1 := by omega
        have hwk : IntKind.i64.wrap ((k : Int) + 1) = (k : Int) + 1 := IntWalk.i64_in _ (by omega)
        have hgk : 1 ≤ gk := by omega
        obtain ⟨b, off, rfl, _⟩ := E.out.ents.get k hkm
        have HKM := Lib.hid hk
        have HL1 : Hid ((out.take k).length ≤ 1000) := Lib.hid (by rw [List.length_take]; have := HM.out; omega)
        have HL2 : Hid ((out.drop (k + 1)).length ≤ 1000) := Lib.hid (by rw [List.length_drop]; have := HM.out; omega)
        have hdl : (out.drop (k + 1)).length = m - (k + 1) := by rw [List.length_drop, HM.out]
        have HDL := Lib.hid hdl
        clear hk hg hdl
        go_upto_region 6 with fail
        go_cut [5] from 11 to 31 (fun s5 wx => Hid (EntNew wx wr.heap.size s5 (out.take k ++ out.drop (k + 1))) ∧ Hid (Below wr.heap.size wr wx))
        case first =>
          by_cases hck : oc = k + 1
          · obtain rfl : m = k + 1 := by omega
            subst hck
            go_region_law (go_simp; go_at_call 18; refine (slConcat_any _ (out.take k) (out.drop (k + 1)) _ (by first | exact tabs_two (EntsAt.take E.out.ents (by omega)) (by first | exact EntsAt.dropAt E.out.ents (by omega) | exact entsAt_nil (by rw [HDL.out]; omega) (by omega) (by omega)) _ | exact TabsAt.below (tabs_two (EntsAt.take E.out.ents (by omega)) (by first | exact EntsAt.dropAt E.out.ents (by omega) | exact entsAt_nil (by rw [HDL.out]; omega) (by omega) (by omega)) _) (Below.drew (Below.refl _ _))) HL1.out HL2.out).mono ?_; rintro e w3 ⟨v3, rfl, hE3, hb3⟩; have E3 : Hid (EntNew w3 wr.heap.size v3 (out.take k ++ out.drop (k + 1))) := Lib.hid (hE3.lift (by simp)); have B3 : Hid (Below wr.heap.size wr w3) := Lib.hid (by refine Below.trans ?_ (hb3.mono (by first | exact Nat.le_refl _ | omega | (simp; done) | (simp; omega))); repeat (first | exact Below.refl _ _ | assumption | refine Below.drew ?_ | refine belowDrewN ?_ _ | refine Below.alloc ?_ (by first | exact Nat.le_refl _ | omega | (simp; done) | (simp; omega)) _ | refine Below.setCell ?_ (by first | exact Nat.le_refl _ | omega | (simp; done) | (simp; omega)) _)); clear hE3 hb3)
            all_goals
              go_wp2_with fail
              go_meet
              exact ⟨E3, B3⟩
          · go_region_law (go_simp; go_at_call 18; refine (slConcat_any _ (out.take k) (out.drop (k + 1)) _ (by first | exact tabs_two (EntsAt.take E.out.ents (by omega)) (by first | exact EntsAt.dropAt E.out.ents (by omega) | exact entsAt_nil (by rw [HDL.out]; omega) (by omega) (by omega)) _ | exact TabsAt.below (tabs_two (EntsAt.take E.out.ents (by omega)) (by first | exact EntsAt.dropAt E.out.ents (by omega) | exact entsAt_nil (by rw [HDL.out]; omega) (by omega) (by omega)) _) (Below.drew (Below.refl _ _))) HL1.out HL2.out).mono ?_; rintro e w3 ⟨v3, rfl, hE3, hb3⟩; have E3 : Hid (EntNew w3 wr.heap.size v3 (out.take k ++ out.drop (k + 1))) := Lib.hid (hE3.lift (by simp)); have B3 : Hid (Below wr.heap.size wr w3) := Lib.hid (by refine Below.trans ?_ (hb3.mono (by first | exact Nat.le_refl _ | omega | (simp; done) | (simp; omega))); repeat (first | exact Below.refl _ _ | assumption | refine Below.drew ?_ | refine belowDrewN ?_ _ | refine Below.alloc ?_ (by first | exact Nat.le_refl _ | omega | (simp; done) | (simp; omega)) _ | refine Below.setCell ?_ (by first | exact Nat.le_refl _ | omega | (simp; done) | (simp; omega)) _)); clear hE3 hb3)
            all_goals
              go_wp2_with fail
              go_meet
              exact ⟨E3, B3⟩
        case rest =>
          obtain ⟨R, BR⟩ := hcut
          obtain ⟨wx, hwx⟩ : ∃ W, W = wc := ⟨_, rfl⟩
          subst hwx
          obtain ⟨ra, rc, e, hrc, hrm⟩ := R.out.form
          subst e
          obtain ⟨rest, hrest⟩ : ∃ q, out.take k ++ out.drop (k + 1) = q := ⟨_, rfl⟩
          obtain ⟨rn, hrn⟩ : ∃ n, (out.take k ++ out.drop (k + 1)).length = n := ⟨_, rfl⟩
          have hrl : rn = m - 1 := by rw [← hrn, List.length_append, List.length_take, HDL.out, HM.out]; omega
          rw [hrn] at R hrc ⊢
          have hlt := less_table TO.out (by rw [HM.out]; exact hkm : k < out.length)
          rw [hrest] at hlt R hrn
          have hall := tableOk_all hlt
          have hall2 := tableOk_all TO.out
          have C1 := Lib.hid (trieOf_any _ rest hall.1 (fun i hi => (hall.2 i hi).1) wx R.out.ents)
          have C2 := Lib.hid (fun W (hW : Below wr.heap.size wr W) => trieOf_any _ out hall2.1 (fun i hi => (hall2.2 i hi).1) W (E.out.ents.below hW))
          have HLT := Lib.hid hlt
          have HRN := Lib.hid hrn
          have HRL := Lib.hid hrl
          clear hlt hall hall2 hrest hrn hrl
          go_wp2_with fail
          refine C1.out.mono ?_
          rintro e w4 ⟨rt1, m1, rfl, hT1, hr1, _, hb4⟩
          have T1 := Lib.hid hT1
          have R1 := Lib.hid hr1
          have R4 := Lib.hid (R.out.below hb4)
          have B4 := Lib.hid (BR.out.trans (hb4.mono BR.out.size))
          clear hT1 hr1 hb4
          go_wp2_with fail
          refine (C2.out w4 B4.out).mono ?_
          rintro e w5 ⟨rt2, m2, rfl, hT2, hr2, _, hb5⟩
          have CS := Lib.hid (sameHops_any rt1 rt2 _ _ m1 m2 _ _ w5 (T1.out.below hb5) R1.out hT2 hr2)
          have R5 := Lib.hid (R4.out.below hb5)
          have B5 := Lib.hid (B4.out.trans (hb5.mono B4.out.size))
          clear hT2 hr2 hb5
          go_wp2_with fail
          unfold SamePost at CS
          refine CS.out.mono ?_
          rintro e w6 ⟨bq, rfl, hsame, hb6⟩
          have R6 := Lib.hid (R5.out.below hb6)
          have B6 := Lib.hid (B5.out.trans (hb6.mono B5.out.size))
          have HSM := Lib.hid hsame
          clear hsame hb6
          cases bq
          · go_wp2_with fail
            go_roundg (gk - 1)
            case measure => omega
            case rel => exact ⟨k + 1, out, by go_num, by have := HKM.out; rw [HM.out]; omega, Lib.hid (E.out.below B6.out), TO, SF, Lib.hid (B.out.trans (B6.out.mono hsw))⟩
          · go_wp2_with fail
            go_roundg (gk - 1)
            case measure => omega
            case rel => exact ⟨k, rest, by go_num, by have := HKM.out; have := HRL.out; rw [HRN.out]; omega, Lib.hid (R6.out.lift hsw), HLT, Lib.hid (SameF.trans (HSM.out (by simp)) SF.out), Lib.hid (B.out.trans (B6.out.mono hsw))⟩
end Go.Proofs.Ytnjkifnlimfhnaa
