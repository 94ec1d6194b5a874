/- spec.l42Ok, spec.SendNext. -/
import Derived.Test.YtgpdkplpneklgaaFind2
namespace Go.Proofs.Ytgpdkplpneklgaa
open Go.RowKit
set_option linter.unusedVariables false

set_option maxRecDepth 100000 in
set_option maxHeartbeats 4000000 in
theorem l42Ok_any (v : Value) (ls : List (List Ent)) (w : World) (hv : TabsAt w v ls) :
    Calls Try.prog 51 #[v] w fun e w' => e = .returned (.bool (tablesOkF ls)) ∧ Below w.heap.size w w' := by
  obtain ⟨a, cap, rfl, hc, hm⟩ := hv.form
  obtain ⟨n, hn⟩ : ∃ n, ls.length = n := ⟨_, rfl⟩
  obtain ⟨R, hR⟩ : ∃ R, tablesOkF ls = R := ⟨_, rfl⟩
  rw [hn] at hc hv ⊢
  rw [hR]
  have HN := Lib.hid hn
  have H := Lib.hid hv
  have HR := Lib.hid hR
  clear hn hv hR
  go_enter Try.func51, Try.ntmps51
  go_wp2_with fail
  go_loopg [3] n (fun gk s3 wr => ∃ k : Nat, s3 = .int .i64 (k : Int) ∧ k + gk = n ∧ Hid (Below w.heap.size w wr) ∧ Hid (∀ j, j < k → tableOkF (ls.getD j []) = true))
  case atStart => exact ⟨0, rfl, by omega, Lib.hid (Below.refl _ _), Lib.hid fun j hj => by omega⟩
  case round =>
    obtain ⟨k, rfl, hk, hb, hno⟩ := hrel
    by_cases hg : gk = 0
    · subst hg
      obtain rfl : k = n := by omega
      have hdn : decide ((k : Int) < (k : Int)) = false := by simp
      have hval : R = (decide ((1 : Int) ≤ (k : Int)) && decide ((k : Int) ≤ 5)) := by
        rw [← HR.out]
        unfold tablesOkF
        rw [HN.out, show ((List.range k).all fun i => tableOkF (ls.getD i [])) = true from List.all_eq_true.2 fun i hi => hno.out i (by simpa using hi), Bool.and_true]
        by_cases q1 : 1 ≤ k <;> by_cases q2 : k ≤ 5 <;> simp [q1, q2] <;> omega
      have hin := fun W => in_any (k : Int) 1 5 W
      rw [← hval] at hin
      have HIN := Lib.hid hin
      clear hin hval
      go_wp2_with (go_at_call 43; refine (HIN.out _).mono ?_; rintro e w1 ⟨rfl, rfl⟩)
      go_ret
      exact ⟨rfl, hb.out⟩
    · have hkn : k < n := by omega
      have hkI : (k : Int) < (n : Int) := by omega
      have k0 : (0 : Int) ≤ (k : Int) := by omega
      have hgk : 1 ≤ gk := by omega
      obtain ⟨b, off, tv, rfl, hbb, c0, hE⟩ := (H.out.below hb.out).get k hkn
      obtain ⟨ta, tc, rfl, htc, htm⟩ := hE.form
      obtain ⟨l, hl⟩ : ∃ l, ls.getD k [] = l := ⟨_, rfl⟩
      rw [hl] at c0 hE htc
      obtain ⟨d, hd⟩ : ∃ d, tableOkF l = d := ⟨_, rfl⟩
      obtain ⟨tn, htn⟩ : ∃ tn, l.length = tn := ⟨_, rfl⟩
      rw [htn] at c0 hE htc
      have htab := specTableOk_any _ l wr hE
      rw [hd] at htab
      have HTAB := Lib.hid htab
      have HL := Lib.hid hl
      have HD := Lib.hid hd
      have HK := Lib.hid hk
      clear htab hE hl hd htn hk hg
      cases d
      · have e := HR.out
        rw [tablesOk_bad (ls := ls) (i := k) (by rw [HN.out]; exact hkn) (by rw [HL.out]; exact HD.out)] at e
        subst e
        go_wp2_with (go_at_call 72; refine HTAB.out.mono ?_; rintro e w1 ⟨rfl, hb1⟩; have BB := Lib.hid (hb.out.trans (hb1.mono hb.out.size)); clear hb1)
        go_ret
        exact ⟨rfl, BB.out⟩
      · go_wp2_with (go_at_call 72; refine HTAB.out.mono ?_; rintro e w1 ⟨rfl, hb1⟩; have BB := Lib.hid (hb.out.trans (hb1.mono hb.out.size)); clear hb1)
        go_roundg (gk - 1)
        case measure => omega
        case rel => exact ⟨k + 1, by go_num, by have := HK.out; omega, BB, Lib.hid fun j hj => by
          by_cases hjk : j = k
          · rw [hjk, HL.out]; exact HD.out
          · exact hno.out j (by omega)⟩

set_option maxRecDepth 100000 in
set_option maxHeartbeats 4000000 in
theorem specSendNext_any (v : Value) (ls : List (List Ent)) (h x : Int) (w : World) (hv : TabsAt w v ls) :
    Calls Try.prog 19 #[v, .int .i64 h, .int .i64 x] w fun e w' => e = .returned (.int .i64 (sendF ls h x)) ∧ Below w.heap.size w w' := by
  have hok := l42Ok_any v ls w hv
  obtain ⟨a, cap, rfl, hc, hm⟩ := hv.form
  obtain ⟨n, hn⟩ : ∃ n, ls.length = n := ⟨_, rfl⟩
  obtain ⟨R, hR⟩ : ∃ R, sendF ls h x = R := ⟨_, rfl⟩
  rw [hR]
  unfold sendF at hR
  rw [hn] at hok hR hc hv ⊢
  obtain ⟨A, hA⟩ : ∃ A, tablesOkF ls = A := ⟨_, rfl⟩
  obtain ⟨B, hB⟩ : ∃ B, (decide (1 ≤ h) && decide (h ≤ (n : Int))) = B := ⟨_, rfl⟩
  obtain ⟨C, hC⟩ : ∃ C, (decide (0 ≤ x) && decide (x ≤ 255)) = C := ⟨_, rfl⟩
  rw [hA] at hok
  have hin1 : ∀ W, Calls Try.prog 43 #[.int .i64 h, .int .i64 1, .int .i64 (n : Int)] W fun e w' => e = .returned (.bool B) ∧ w' = W := fun W => by rw [← hB]; exact in_any _ _ _ W
  have hin2 : ∀ W, Calls Try.prog 43 #[.int .i64 x, .int .i64 0, .int .i64 255] W fun e w' => e = .returned (.bool C) ∧ w' = W := fun W => by rw [← hC]; exact in_any _ _ _ W
  have HOK := Lib.hid hok
  have HN := Lib.hid hn
  have HR := Lib.hid hR
  have HA := Lib.hid hA
  have HB := Lib.hid hB
  have HC := Lib.hid hC
  have H := Lib.hid hv
  have HI1 := Lib.hid hin1
  have HI2 := Lib.hid hin2
  clear hok hn hR hA hB hC hv hin1 hin2
  cases A
  · have e := HR.out
    rw [if_neg (by rw [HA.out]; simp)] at e
    subst e
    go_enter Try.func19, Try.ntmps19
    go_wp2_with (go_at_call 51; refine HOK.out.mono ?_; rintro e w1 ⟨rfl, hb1⟩)
    go_ret
    exact ⟨rfl, hb1⟩
  · cases B
    · have e := HR.out
      rw [if_neg (by have := HB.out; simp at this; omega)] at e
      subst e
      go_enter Try.func19, Try.ntmps19
      go_wp2_with (first | (go_at_call 51; refine HOK.out.mono ?_; rintro e w1 ⟨rfl, hb1⟩) | (go_at_call 43; refine (HI1.out _).mono ?_; rintro e w2 ⟨rfl, rfl⟩))
      go_ret
      exact ⟨rfl, hb1⟩
    · cases C
      · have e := HR.out
        rw [if_neg (by have := HC.out; unfold addrF; rw [this]; simp)] at e
        subst e
        go_enter Try.func19, Try.ntmps19
        go_wp2_with (first | (go_at_call 51; refine HOK.out.mono ?_; rintro e w1 ⟨rfl, hb1⟩) | (go_at_call_of 43 (Value.int IntKind.i64 x); refine (HI2.out _).mono ?_; rintro e w2 ⟨rfl, rfl⟩) | (go_at_call 43; refine (HI1.out _).mono ?_; rintro e w2 ⟨rfl, rfl⟩))
        go_ret
        exact ⟨rfl, hb1⟩
      · have hhb := HB.out
        simp at hhb
        obtain ⟨k, rfl⟩ : ∃ k : Nat, h = (k : Int) + 1 := ⟨(h - 1).toNat, by omega⟩
        have hx : 0 ≤ x ∧ x ≤ 255 := by have := HC.out; simpa using this
        have e := HR.out
        rw [if_pos ⟨HA.out, by omega, by omega, HC.out⟩, show ((k : Int) + 1 - 1).toNat = k by omega] at e
        have hkn : k < n := by omega
        have hkI : (k : Int) < (n : Int) := by omega
        have k0 : (0 : Int) ≤ (k : Int) := by omega
        have HE := Lib.hid e
        have HX := Lib.hid hx
        clear e hx hhb
        have htok := (tablesOk_at HA.out).2.2 k (by rw [HN.out]; exact hkn)
        have HT := Lib.hid htok
        clear htok
        obtain ⟨b, off, tv, rfl, hbb, c0, hE⟩ := H.out.get k hkn
        have HET := Lib.hid hE
        clear hE
        go_enter Try.func19, Try.ntmps19
        go_wp2_with (first | (go_at_call 51; refine HOK.out.mono ?_; rintro e w1 ⟨rfl, hb1⟩; obtain ⟨hc1, hf1⟩ := bcell hb1) | (go_at_call_of 43 (Value.int IntKind.i64 x); refine (HI2.out _).mono ?_; rintro e w2 ⟨rfl, rfl⟩) | (go_at_call 43; refine (HI1.out _).mono ?_; rintro e w2 ⟨rfl, rfl⟩) | (go_at_call 52; refine (l2Find_any tv _ x HX.out.1 HX.out.2 HT.out _ (HET.out.below hb1)).mono ?_; rintro e w3 ⟨rfl, hb3⟩))
        go_ret
        exact ⟨congrArg (fun z => Ending.returned (.int .i64 z)) HE.out, hb1.trans (hb3.mono hb1.size)⟩
end Go.Proofs.Ytgpdkplpneklgaa
