/- impl.forwarding, walked. -/
import Derived.Test.YtlpibfafpljedaaGreatDoorFwd
import Derived.Deep.RegionLaw
namespace Go.Proofs.YtlpibfafpljedaaGreatDoor
open Go.RowKit
set_option linter.unusedVariables false

theorem info_fP : (Tryz.prog.info? 75).map (fun i => (i.zero, i.size, i.bytes)) = some (some .nilFunc, 1, 8) := by kernel_rfl
def fwdV (F : Nat) : Value := .func (.func 51) #[] #[.pointer (some ⟨F, 0, none⟩)]
def FwdPost (ls : List (List Ent)) (w : World) (e : Ending) (w' : World) : Prop :=
  ((tablesOkF ls = true ∧ ∃ F fv xs, e = .returned (.tuple #[fwdV F, .bool true]) ∧ FindAt w' F fv xs ls) ∨ (tablesOkF ls = false ∧ e = .returned (.tuple #[.nilFunc, .bool false]))) ∧ Below w.heap.size w w'
theorem lit_src (W : World) (u : Value) : SliceAt (W.alloc (.cells #[u] 75)) (.slice (some ⟨W.heap.size, 0, none⟩) 1 1) 1 (fun _ => u) :=
  ⟨_, 1, rfl, Nat.le_refl _, by unfold maxLen; omega, .inr ⟨W.heap.size, 0, rfl, by simp, fun i hi => by
    obtain rfl : i = 0 := by omega
    simp⟩⟩
set_option maxRecDepth 100000 in
set_option maxHeartbeats 8000000 in
theorem forwarding_any (v : Value) (ls : List (List Ent)) (w : World) (hv : TabsAt w v ls) :
    Calls Tryz.prog 28 #[v] w (FwdPost ls w) := by
  obtain ⟨i0, hi, hz0, hz1, hz2⟩ := info_parts info_fP
  obtain ⟨a, cap, rfl, hc, hm⟩ := hv.form
  obtain ⟨n, hn⟩ : ∃ n, ls.length = n := ⟨_, rfl⟩
  rw [hn] at hc hv ⊢
  have HN := Lib.hid hn
  have H := Lib.hid hv
  clear hn hv
  unfold FwdPost
  by_cases h1 : n < 1
  · have h1' : (n : Int) < 1 := by omega
    have hb := tablesOk_len (ls := ls) (.inl (by rw [HN.out]; exact h1))
    have HB := Lib.hid hb
    clear hb h1
    go_enter Tryz.func28, Tryz.ntmps28
    go_wp2_with fail
    refine bodyPost_ret (results_tmp2 rfl _ _ _) rfl ?_
    exact ⟨.inr ⟨HB.out, rfl⟩, Below.refl _ _⟩
  · have h1' : ¬ (n : Int) < 1 := by omega
    by_cases h5 : 5 < n
    · have h5' : (5 : Int) < (n : Int) := by omega
      have hb := tablesOk_len (ls := ls) (.inr (by rw [HN.out]; exact h5))
      have HB := Lib.hid hb
      clear hb h1 h5
      go_enter Tryz.func28, Tryz.ntmps28
      go_wp2_with fail
      refine bodyPost_ret (results_tmp2 rfl _ _ _) rfl ?_
      exact ⟨.inr ⟨HB.out, rfl⟩, Below.refl _ _⟩
    · have h5' : ¬ (5 : Int) < (n : Int) := by omega
      have hl1 : 1 ≤ n := by omega
      have hl5 : n ≤ 5 := by omega
      clear h1 h5
      go_enter Tryz.func28, Tryz.ntmps28
      go_wp2_with fail
      go_loopg [17] n (fun gk s17 wr => ∃ (k : Nat) (fv : Value) (xs : List Value), s17 = .int .i64 (k : Int) ∧ k + gk = n ∧ Hid (FindAt wr w.heap.size fv xs (ls.take k)) ∧ Hid (Below w.heap.size w wr) ∧ Hid (∀ j, j < k → tableOkF (ls.getD j []) = true))
      case atStart =>
        refine ⟨0, .slice none 0 0, [], rfl, by omega, Lib.hid ⟨by simp, by simp, ⟨rfl, .inl ⟨rfl, rfl⟩⟩, fun i hi => by simp at hi⟩, Lib.hid (Below.alloc (Below.refl _ _) (Nat.le_refl _) _), Lib.hid fun j hj => by omega⟩
      case round =>
        obtain ⟨k, fv, xs, rfl, hk, hF, hB, hno⟩ := hrel
        by_cases hg : gk = 0
        · subst hg
          obtain rfl : k = n := by omega
          have hdn : decide ((k : Int) < (k : Int)) = false := by simp
          have hgood := tablesOk_good (ls := ls) (by rw [HN.out]; exact hl1) (by rw [HN.out]; exact hl5) (fun i hi => hno.out i (by rw [HN.out] at hi; exact hi))
          have HG := Lib.hid hgood
          clear hgood
          go_wp2_with fail
          refine bodyPost_ret (results_tmp2 rfl _ _ _) rfl ?_
          refine ⟨.inl ⟨HG.out, w.heap.size, fv, xs, rfl, ?_⟩, hB.out⟩
          have := hF.out
          rw [← HN.out, List.take_length] at this
          exact this
        · have hkn : k < n := by omega
          have hkI : (k : Int) < (n : Int) := by omega
          have k0 : (0 : Int) ≤ (k : Int) := by omega
          have hgk : 1 ≤ gk := by omega
          obtain ⟨b, off, tv, rfl, hb, c0, hE⟩ := (H.out.below hB.out).get k hkn
          obtain ⟨ta, tc, rfl, htc, htm⟩ := hE.form
          obtain ⟨l, hl⟩ : ∃ l, ls.getD k [] = l := ⟨_, rfl⟩
          rw [hl] at c0 hE htc
          obtain ⟨d, hd⟩ : ∃ d, tableOkF l = d := ⟨_, rfl⟩
          obtain ⟨tn, htn⟩ : ∃ tn, l.length = tn := ⟨_, rfl⟩
          rw [htn] at c0 hE htc
          have htab := implTableOk_any _ l wr hE
          rw [hd] at htab
          have HTAB := Lib.hid htab
          have HE := Lib.hid hE
          have HL := Lib.hid hl
          have HD := Lib.hid hd
          have HTN := Lib.hid htn
          have HK := Lib.hid hk
          clear htab hE hl hd htn hk hg
          cases d
          · have hbad := tablesOk_bad (ls := ls) (i := k) (by rw [HN.out]; exact hkn) (by rw [HL.out]; exact HD.out)
            have HBAD := Lib.hid hbad
            clear hbad
            go_wp2_with (go_at_call 48; refine HTAB.out.mono ?_; rintro e w1 ⟨rfl, hb1⟩; have BB := Lib.hid (hB.out.trans (hb1.mono hB.out.size)); clear hb1)
            refine bodyPost_ret (results_tmp2 rfl _ _ _) rfl ?_
            exact ⟨.inr ⟨HBAD.out, rfl⟩, BB.out⟩
          · go_wp2_with (go_at_call 48; refine HTAB.out.mono ?_; rintro e w1 ⟨rfl, hb1⟩; have BB := Lib.hid (hB.out.trans (hb1.mono hB.out.size)); have HF1 := Lib.hid (hF.out.below hb1); have HE1 := Lib.hid (HE.out.below hb1); clear hb1)
            have hf0 := HF1.out.lt
            have hcell := HF1.out.cell
            have hfree := HF1.out.free
            obtain ⟨fa, fc, e, hfk, hfm⟩ := owns_form HF1.out.own
            have hlk : (ls.take k).length = k := by rw [List.length_take, HN.out]; omega
            rw [hlk] at e hfk
            subst e
            have hown := HF1.out.own
            rw [hlk] at hown
            have OWN := Lib.hid hown
            have hentok := fun i (hi : i < l.length) => ((tableOk_all HD.out).2 i hi).1
            have htl := (tableOk_all HD.out).1
            have hsl : ls.take (k + 1) = ls.take k ++ [l] := by rw [List.take_add_one, ← HL.out, List.getD_eq_getElem?_getD, List.getElem?_eq_getElem (by rw [HN.out]; exact hkn)]; rfl
            have HENT := Lib.hid hentok
            have HTL := Lib.hid htl
            have HSL := Lib.hid hsl
            have HLK := Lib.hid hlk
            clear hown hentok htl hsl hlk
            obtain ⟨hc1, hf1⟩ := bcell (Below.refl w1.heap.size w1)
            clear hc1 hf1
            go_region_law (first
              | (go_simp; go_at_call 49; refine (trieOf_any _ l HTL.out HENT.out _ (HE1.out.below (by repeat (first | exact Below.refl _ _ | assumption | refine Below.drew ?_ | refine belowDrewN ?_ _ | refine Below.alloc ?_ (by first | exact Nat.le_refl _ | omega | (simp; done) | (simp; omega)) _ | refine Below.setCell ?_ (by first | exact Nat.le_refl _ | omega | (simp; done) | (simp; omega)) _)))).mono ?_; rintro e w2 ⟨root, m2, rfl, hT2, hr2, _, hb2⟩; have hb12 : Below w1.heap.size w1 w2 := (by refine Below.trans ?_ (hb2.mono (by first | exact Nat.le_refl _ | omega | (simp; done) | (simp; omega))); repeat (first | exact Below.refl _ _ | assumption | refine Below.drew ?_ | refine belowDrewN ?_ _ | refine Below.alloc ?_ (by first | exact Nat.le_refl _ | omega | (simp; done) | (simp; omega)) _ | refine Below.setCell ?_ (by first | exact Nat.le_refl _ | omega | (simp; done) | (simp; omega)) _)); have HF2 := Lib.hid (HF1.out.below hb12); have HT2 : Hid (TrieAt w2 (w.heap.size + 1) root l) := Lib.hid (TrieAt.keep ⟨m2, hT2, hr2⟩ (by (try simp); omega) (fun _ _ _ _ => rfl)); have hcell2 := HF2.out.cell; have hfree2 := HF2.out.free; have hf2 := HF2.out.lt; have OWN2 := Lib.hid (owns_belowR OWN.out hb12); have BB := Lib.hid (BB.out.trans (hb12.mono BB.out.size)); clear hT2 hr2 hb2 hb12)
              | (refine step_append_src rfl (.tmp 24) (.tmp 28) 91 rfl (w.heap.size + 1) 75 i0 .nilFunc 8 Tryz.underlying91 hi hz0 hz1 hz2 rfl (.slice fa k fc) k xs rfl (World.ownsRow.alloc OWN2.out _) (.slice (some ⟨w2.heap.size, 0, none⟩) 1 1) 1 (fun _ => findV root) rfl (lit_src w2 (findV root)) (fun j hj => rfl) (by unfold maxLen; omega) (by omega) (by (try simp); omega) ?_; intro v' w3 hown3 hgrow3; have hblk := fun b (hb : (w2.alloc (.cells #[findV root] 75)).heap.size > b) (hne : (Value.slice fa k fc).ownBlock ≠ some b) => hgrow3.block b hb (fun e => hne e.symm); have hF0 : (Value.slice fa k fc).ownBlock ≠ some w.heap.size := (fun e => by have := (World.ownsRow.lt OWN2.out _ e).1; omega); have hbF := hblk w.heap.size (by simp; omega) hF0; have hcell3 : w3.cell? ⟨w.heap.size, 0, none⟩ = some (.slice fa k fc) := ((World.cell?_of_block (w := w2.alloc (.cells #[findV root] 75)) hbF).trans ((World.cell?_alloc_past _ _ _ hf2).trans hcell2)); have hfree3 : w3.frozen? ⟨w.heap.size, 0, none⟩ = false := ((World.frozen?_of_block (w := w2.alloc (.cells #[findV root] 75)) hbF).trans ((World.frozen?_alloc_past _ _ _ hf2).trans hfree2)); have HP : Hid (FindAt (w3.setCell ⟨w.heap.size, 0, none⟩ v') w.heap.size v' (xs ++ [findV root]) (ls.take k ++ [l])) := Lib.hid (FindAt.push (HF2.out.below (Below.alloc (Below.refl _ _) (Nat.le_refl _) _)) (HT2.out.keep (Nat.le_refl _) (fun b c _ hc => Below.heap_alloc _ _ _ (heap_lt hc))) hgrow3 (by rw [HLK.out]; exact hown3)); have BB3 : Hid (Below w.heap.size w w3) := Lib.hid (Below.grown (Below.alloc BB.out (by omega) _) hgrow3 (by simp; omega) (fun g hg => by have := (World.ownsRow.lt OWN2.out g hg).1; omega)); obtain ⟨va, vc, ev, _, _⟩ := owns_form hown3; clear hown3 hgrow3 hblk hF0 hbF; subst ev))
            all_goals
              go_wp2_with fail
              go_roundg (gk - 1)
              case measure => omega
              case rel =>
                refine ⟨k + 1, .slice va (k + 1) vc, xs ++ [findV root], by go_num, by have := HK.out; omega, Lib.hid (by rw [HSL.out]; exact HP.out), Lib.hid (Below.setCell BB3.out (by simp) _), Lib.hid fun j hj => ?_⟩
                by_cases hjk : j = k
                · rw [hjk, HL.out]; exact HD.out
                · exact hno.out j (by omega)
end Go.Proofs.YtlpibfafpljedaaGreatDoor
