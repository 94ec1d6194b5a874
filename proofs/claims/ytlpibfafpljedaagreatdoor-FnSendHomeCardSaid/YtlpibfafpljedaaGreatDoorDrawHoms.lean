/- spec.l92Homes. -/
import Derived.Test.YtlpibfafpljedaaGreatDoorHomNew
namespace Go.Proofs.YtlpibfafpljedaaGreatDoor
open Go.RowKit
set_option linter.unusedVariables false

def HomsPost (k : Nat) (a : Option Addr) (len' cap : Nat) (zs : List Int) (p : Nat) (w : World) (e : Ending) (w' : World) : Prop :=
  ∃ (v hv : Value) (n q : Nat) (l : List Ent), e = .returned (.tuple #[v, hv]) ∧ 2 ≤ n ∧ n ≤ 5 ∧ p ≤ q ∧ q ≤ p + 200 ∧ RS k a len' cap zs w w' q v n n ∧ HomNew w' w.heap.size hv l ∧ l.length ≤ 5
set_option maxRecDepth 100000 in
set_option maxHeartbeats 8000000 in
theorem l92Homes_any (k : Nat) (a : Option Addr) (len' cap : Nat) (zs : List Int) (p : Nat) (w : World) (hp : p ≤ 80000) (hkw : k < w.heap.size) (hR : RdAt w k a len' cap zs p) :
    Calls Tryz.prog 15 #[.pointer (some ⟨k, 0, none⟩)] w (HomsPost k a len' cap zs p w) := by
  obtain ⟨i0, hi, hz0, hz1, hz2⟩ := info_parts info_h3
  unfold HomsPost
  have HR := Lib.hid hR
  clear hR
  go_enter Tryz.func15, Tryz.ntmps15
  go_wp2_with fail
  refine (l91Rels_any k a len' cap zs p w (by omega) hkw HR.out).mono ?_
  rintro e w1 ⟨mv, n, q, rfl, hn2, hn5, hq0, hq1, hS⟩
  have hsz := hS.size
  obtain ⟨ma, mc, em, hmc, hmm⟩ := hS.mat.form
  subst em
  have S := Lib.hid hS
  clear hS HR
  go_wp2_with fail
  refine (pick_any 5 k a len' cap zs _ _ (by omega) (RS.rd (by first | exact S.out | exact S.out.drew | exact S.out.alloc _ | exact (S.out.drew).alloc _ | exact (S.out.alloc _).drew | exact (S.out.alloc _).alloc _)) (by omega)).mono ?_
  rintro e w2 ⟨xn, rfl, xn0, xn1, hr, hO, hs⟩
  (try simp at hs)
  have S := Lib.hid (RS.picked (by first | exact S.out | exact S.out.drew | exact S.out.alloc _ | exact (S.out.drew).alloc _ | exact (S.out.alloc _).drew | exact (S.out.alloc _).alloc _) hr hO)
  clear hr
  have hs2 : w.heap.size ≤ w2.heap.size := S.out.size
  have T := Lib.hid ((EntNew.zero w1).only hO (by omega))
  clear hO hs
  obtain ⟨N, hN⟩ : ∃ N : Nat, xn = (N : Int) := ⟨xn.toNat, by omega⟩
  subst hN
  have hN4 : N ≤ 4 := by omega
  go_wp2_with fail
  go_loopg [5, 6] N (fun gk s5 s6 wr => ∃ (l : List Ent) (q : Nat), s6 = .int .i64 (gk : Int) ∧ l.length + gk ≤ 4 ∧ p ≤ q ∧ q ≤ p + 150 - 10 * gk ∧ Hid (RS k a len' cap zs w wr q (.slice ma n mc) n n) ∧ Hid (EntNew wr w.heap.size s5 l))
  case atStart => exact ⟨[], _, rfl, by simp; omega, by omega, by omega, S, Lib.hid (T.out.lift (by omega))⟩
  case round =>
    clear S T
    obtain ⟨l, q2, rfl, hl, hq20, hq21, S, T⟩ := hrel
    obtain ⟨ta, tc, e, htc, htm⟩ := T.out.form
    subst e
    obtain ⟨L, hL⟩ : ∃ L, l.length = L := ⟨_, rfl⟩
    rw [hL] at hl htc T ⊢
    have HL := Lib.hid hL
    have hL4 : L ≤ 4 := by omega
    by_cases hg : gk = 0
    · subst hg
      have hszr := S.out.size
      have HN0 := (HomNew.zero wr).lift (B' := w.heap.size) hszr
      have S1 := Lib.hid (S.out.alloc (.cells #[] 36))
      have T1 := Lib.hid (T.out.below (Below.alloc (Below.refl wr.heap.size wr) (Nat.le_refl _) (.cells #[] 36)))
      have H1 := Lib.hid HN0
      clear HN0 S T
      go_wp2_with fail
      go_loopg [8, 9] L (fun gk s8 s9 wr => ∃ (i : Nat) (h : List Ent) (q : Nat), s9 = .int .i64 (i : Int) ∧ i + gk = L ∧ h.length = i ∧ p ≤ q ∧ q ≤ p + 151 + i ∧ Hid (RS k a len' cap zs w wr q (.slice ma n mc) n n) ∧ Hid (EntNew wr w.heap.size (.slice ta L tc) l) ∧ Hid (HomNew wr w.heap.size s8 h))
      case atStart => exact ⟨0, [], q2, rfl, by omega, rfl, by omega, by omega, S1, T1, H1⟩
      case round =>
        clear S1 T1 H1
        obtain ⟨i, h, q4, rfl, hi', hh, hq40, hq41, S, T, H⟩ := hrel
        obtain ⟨oa, oc, e, hoc, hocm⟩ := H.out.form
        subst e
        rw [hh] at hoc H ⊢
        have HH := Lib.hid hh
        clear hh
        have hswr := S.out.size
        by_cases hg : gk = 0
        · subst hg
          obtain rfl : i = L := by omega
          have hdn : decide ((i : Int) < (i : Int)) = false := by simp
          clear hi'
          go_wp2_with fail
          refine (pick_any 40 k a len' cap zs _ _ (by omega) (RS.rd (by first | exact S.out | exact S.out.drew | exact S.out.alloc _ | exact (S.out.drew).alloc _ | exact (S.out.alloc _).drew | exact (S.out.alloc _).alloc _)) (by omega)).mono ?_
          rintro e w6 ⟨xe, rfl, xe0, xe1, hr, hO, hs⟩
          (try simp at hs)
          have S := Lib.hid (RS.picked (by first | exact S.out | exact S.out.drew | exact S.out.alloc _ | exact (S.out.drew).alloc _ | exact (S.out.alloc _).drew | exact (S.out.alloc _).alloc _) hr hO)
          clear hr
          by_cases hxe : xe = 0
          · subst hxe
            have H6 := Lib.hid (H.out.only hO S.out.far)
            clear hO hs
            go_wp2_with fail
            refine (l91Range_any k a len' cap zs _ _ (by omega) (RS.rd S.out).lt (RS.rd S.out)).mono ?_
            rintro e w7 ⟨f, b, rfl, hf0, hf1, hb0, hb1, ⟨q7, hq70, hq71, hR7⟩, hO7⟩
            have S := Lib.hid (S.out.picked hR7 hO7)
            have H7 := Lib.hid (H6.out.only hO7 S.out.far)
            clear hR7 hO7 H6
            go_wp2_with fail
            refine (pick_any 7 k a len' cap zs _ _ (by omega) (RS.rd (by first | exact S.out | exact S.out.drew | exact S.out.alloc _ | exact (S.out.drew).alloc _ | exact (S.out.alloc _).drew | exact (S.out.alloc _).alloc _)) (by omega)).mono ?_
            rintro e w8 ⟨xv, rfl, xv0, xv1, hr, hO, hs⟩
            (try simp at hs)
            have S := Lib.hid (RS.picked (by first | exact S.out | exact S.out.drew | exact S.out.alloc _ | exact (S.out.drew).alloc _ | exact (S.out.alloc _).drew | exact (S.out.alloc _).alloc _) hr hO)
            clear hr
            have H8 := Lib.hid (H7.out.only hO S.out.far)
            have hs8 : w.heap.size ≤ w8.heap.size := S.out.size
            clear hO hs H7
            go_wp2_with (at_builtin; refine wpList_append_homS rfl (.tmp 52) (.tmp 58) rfl w.heap.size _ h (f, b, xv) i HH.out rfl H8.out rfl (by omega) hs8 S.out (Nat.le_refl _) ?_; intro ad c w9 hH9 hS9 hs9; have S9 := Lib.hid hS9; have H9 := Lib.hid hH9; clear hS9 hH9)
            refine bodyPost_ret (results_tmp2 rfl _ _ _) rfl ?_
            exact ⟨_, _, n, _, _, rfl, hn2, hn5, by omega, by omega, S9.out, H9.out, by rw [List.length_append, HH.out]; simp; omega⟩
          · have hxb : (xe == 0) = false := by simp [hxe]
            have H6 := Lib.hid (H.out.only hO S.out.far)
            clear hO hs
            go_wp2_with fail
            refine bodyPost_ret (results_tmp2 rfl _ _ _) rfl ?_
            exact ⟨_, _, n, _, _, rfl, hn2, hn5, by omega, by omega, S.out, H6.out, by rw [HH.out]; omega⟩
        · have hiL : i < L := by omega
          have hiI : (i : Int) < (L : Int) := by omega
          have i0 : (0 : Int) ≤ (i : Int) := by omega
          have hgk : 1 ≤ gk := by omega
          have HI := Lib.hid hi'
          obtain ⟨b, off, rfl, hbb, c0, c1, c2⟩ := T.out.ents.get i hiL
          obtain ⟨ent, hent⟩ : ∃ e, l.getD i (0, 0, 0) = e := ⟨_, rfl⟩
          rw [hent] at c0 c1 c2
          obtain ⟨f, bt, vi⟩ := ent
          simp only at c0 c1 c2
          have hbk : b ≠ k := by obtain ⟨_, g1, _⟩ := T.out; have := (World.ownsRow.lt g1 b rfl).1; omega
          clear hi' hent hg
          go_wp2_with fail
          go_region_law (first
            | (go_simp; go_at_call 33; refine (pick_any n k a len' cap zs _ _ (by omega) (RS.rd (by first | exact S.out | exact S.out.drew)) (by omega)).mono ?_; rintro e w8 ⟨xu, rfl, xu0, xu1, hr, hO, hs⟩; (try simp at hs); have S8 := Lib.hid (RS.picked (by first | exact S.out | exact S.out.drew) hr hO); have T8 := Lib.hid (EntNew.only (by first | exact T.out | exact T.out.below (Below.drew (Below.refl _ _))) hO S.out.far); have H8 := Lib.hid (HomNew.only (by first | exact H.out | exact H.out.below (Below.drew (Below.refl _ _))) hO S.out.far); have d0 := (hO.cell (p := ⟨b, off + i * 3, none⟩) (by first | exact hbb | simpa using hbb) (by simpa using hbk)).trans (show _ = some (Value.int .i64 f) by first | exact c0 | simpa using c0); have d1 := (hO.cell (p := ⟨b, off + i * 3 + 1, none⟩) (by first | exact hbb | simpa using hbb) (by simpa using hbk)).trans (show _ = some (Value.int .i64 bt) by first | exact c1 | simpa using c1); have hs8 : w.heap.size ≤ w8.heap.size := S8.out.size; have xu5 : xu < 5 := (by omega); have hwx : IntKind.i64.wrap (1 + xu) = 1 + xu := (IntWalk.i64_in _ (by omega)); clear hr hO hs xu1)
            | (refine step_append_homS rfl (.tmp 34) (.tmp 46) rfl w.heap.size _ h (f, bt, 1 + xu) i HH.out rfl H8.out rfl (by omega) hs8 S8.out (Nat.le_refl _) T8.out ?_; intro ad c w9 hH9 hS9 hT9 hs9; have S9 := Lib.hid hS9; have T9 := Lib.hid hT9; have H9 := Lib.hid hH9; clear hS9 hT9 hH9))
          all_goals
            go_wp2_with fail
            go_roundg (gk - 1)
            case measure => omega
            case rel => exact ⟨i + 1, _, q4 + 1, by go_num, by have := HI.out; omega, by rw [List.length_append, HH.out]; rfl, by omega, by omega, S9, T9, H9⟩
    · have hgI : (0 : Int) < (gk : Int) := by omega
      have hgk : 1 ≤ gk := by omega
      go_wp2_with fail
      refine (l91Range_any k a len' cap zs q2 _ (by omega) S.out.rd.lt S.out.rd).mono ?_
      rintro e w3 ⟨f, b, rfl, hf0, hf1, hb0, hb1, ⟨q3, hq30, hq31, hR3⟩, hO3⟩
      have S3 := Lib.hid (S.out.picked hR3 hO3)
      have T3 := Lib.hid (T.out.only hO3 S.out.far)
      clear hR3 hO3 S T
      have hs3 := S3.out.size
      go_wp2_with fail
      refine (specRangeOk_any f b _).mono ?_
      rintro e w4 ⟨rfl, hb4⟩
      have hB4 : Below w3.heap.size w3 w4 := (by refine Below.trans ?_ (hb4.mono (by first | exact Nat.le_refl _ | omega | (simp; done) | (simp; omega))); repeat (first | exact Below.refl _ _ | assumption | refine Below.drew ?_ | refine belowDrewN ?_ _ | refine Below.alloc ?_ (by first | exact Nat.le_refl _ | omega | (simp; done) | (simp; omega)) _ | refine Below.setCell ?_ (by first | exact Nat.le_refl _ | omega | (simp; done) | (simp; omega)) _))
      have S4 := Lib.hid (S3.out.below hB4)
      have T4 := Lib.hid (T3.out.below hB4)
      have c0 : w4.cell? ⟨w3.heap.size, 0, none⟩ = some (.int .i64 f) := by rw [hb4.cell (p := ⟨w3.heap.size, 0, none⟩) (by simp)]; simp
      have c1 : w4.cell? ⟨w3.heap.size, 1, none⟩ = some (.int .i64 b) := by rw [hb4.cell (p := ⟨w3.heap.size, 1, none⟩) (by simp)]; simp
      clear hb4 hB4 S3 T3
      cases hok : rangeOkF f b
      · go_wp2_with fail
        go_roundg (gk - 1)
        case measure => omega
        case rel => exact ⟨l, q3, by go_num, by rw [HL.out]; omega, by omega, by omega, S4, T4⟩
      · go_wp2_with fail
        have HP := l2Put_any _ l (f, b, 1) _ T4.out.ents (by rw [HL.out]; omega)
        unfold entV at HP
        dsimp only at HP
        refine HP.mono ?_
        clear HP
        rintro e w5 ⟨v5, rfl, hT5, hb5⟩
        have hs4 := S4.out.size
        go_wp2_with fail
        go_roundg (gk - 1)
        case measure => omega
        case rel => exact ⟨putF l (f, b, 1), q3, by go_num, by have := putF_len l (f, b, 1); rw [HL.out] at this; omega, by omega, by omega, Lib.hid (S4.out.below hb5), Lib.hid (hT5.lift hs4)⟩
end Go.Proofs.YtlpibfafpljedaaGreatDoor
