/- spec.l42Ok, spec.SendNext. -/
import Derived.Test.YtnjkifnlimfhnaaDoorFind2
namespace Go.Proofs.YtnjkifnlimfhnaaDoor
open Go.RowKit
set_option linter.unusedVariables false

set_option maxRecDepth 100000 in
set_option maxHeartbeats 4000000 in
theorem l42Ok_any (v : Value) (ls : List (List Ent)) (w : World) (hv : TabsAt w v ls) :
    Calls Tryd.prog 32 #[v] w fun e w' => e = .returned (.bool (tablesOkF ls)) ∧ Below w.heap.size w w' := by
  obtain ⟨a, cap, rfl, hc, hm⟩ := hv.form
  obtain ⟨n, hn⟩ : ∃ n, ls.length = n := ⟨_, rfl⟩
  obtain ⟨R, hR⟩ : ∃ R, tablesOkF ls = R := ⟨_, rfl⟩
  rw [hn] at hc hv ⊢
  rw [hR]
  have HN := Lib.hid hn
  have H := Lib.hid hv
  have HR := Lib.hid hR
  clear hn hv hR
  go_enter Tryd.func32, Tryd.ntmps32
  go_wp2_with fail
  go_loopg [3] n (fun gk s3 wr => ∃ k : Nat, s3 = .int .i64 (k : Int) ∧ k + gk = n ∧ Hid (Below w.heap.size w wr) ∧ Hid (∀ j, j < k → tableOkF (ls.getD j []) = true))
  case atStart => exact ⟨0, rfl, by omega, Lib.hid (Below.refl _ _), Lib.hid fun j hj => by omega⟩
  case round =>
    obtain ⟨k, rfl, hk, hb, hno⟩ := hrel
    by_cases hg : gk = 0
    · subst hg
      obtain rfl : k = n := by omega
      have hdn : decide ((k : Int) < (k : Int)) = false := by simp
      have hval : R = (decide ((1 : Int) ≤ (k : Int)) && decide ((k : Int) ≤ 5)) := by
        rw [← HR.out]
        unfold tablesOkF
        rw [HN.out, show ((List.range k).all fun i => tableOkF (ls.getD i [])) = true from List.all_eq_true.2 fun i hi => hno.out i (by simpa using hi), Bool.and_true]
        by_cases q1 : 1 ≤ k <;> by_cases q2 : k ≤ 5 <;> simp [q1, q2] <;> omega
      have hin := fun W => in_any (k : Int) 1 5 W
      rw [← hval] at hin
      have HIN := Lib.hid hin
      clear hin hval
      go_wp2_with (go_at_call 33; refine (HIN.out _).mono ?_; rintro e w1 ⟨rfl, rfl⟩)
      go_ret
      exact ⟨rfl, hb.out⟩
    · have hkn : k < n := by omega
      have hkI : (k : Int) < (n : Int) := by omega
      have k0 : (0 : Int) ≤ (k : Int) := by omega
      have hgk : 1 ≤ gk := by omega
      obtain ⟨b, off, tv, rfl, hbb, c0, hE⟩ := (H.out.below hb.out).get k hkn
      obtain ⟨ta, tc, rfl, htc, htm⟩ := hE.form
      obtain ⟨l, hl⟩ : ∃ l, ls.getD k [] = l := ⟨_, rfl⟩
      rw [hl] at c0 hE htc
      obtain ⟨d, hd⟩ : ∃ d, tableOkF l = d := ⟨_, rfl⟩
      obtain ⟨tn, htn⟩ : ∃ tn, l.length = tn := ⟨_, rfl⟩
      rw [htn] at c0 hE htc
      have htab := specTableOk_any _ l wr hE
      rw [hd] at htab
      have HTAB := Lib.hid htab
      have HL := Lib.hid hl
      have HD := Lib.hid hd
      have HK := Lib.hid hk
      clear htab hE hl hd htn hk hg
      cases d
      · have e := HR.out
        rw [tablesOk_bad (ls := ls) (i := k) (by rw [HN.out]; exact hkn) (by rw [HL.out]; exact HD.out)] at e
        subst e
        go_wp2_with (go_at_call 54; refine HTAB.out.mono ?_; rintro e w1 ⟨rfl, hb1⟩; have BB := Lib.hid (hb.out.trans (hb1.mono hb.out.size)); clear hb1)
        go_ret
        exact ⟨rfl, BB.out⟩
      · go_wp2_with (go_at_call 54; refine HTAB.out.mono ?_; rintro e w1 ⟨rfl, hb1⟩; have BB := Lib.hid (hb.out.trans (hb1.mono hb.out.size)); clear hb1)
        go_roundg (gk - 1)
        case measure => omega
        case rel => exact ⟨k + 1, by go_num, by have := HK.out; omega, BB, Lib.hid fun j hj => by
          by_cases hjk : j = k
          · rw [hjk, HL.out]; exact HD.out
          · exact hno.out j (by omega)⟩

end Go.Proofs.YtnjkifnlimfhnaaDoor
