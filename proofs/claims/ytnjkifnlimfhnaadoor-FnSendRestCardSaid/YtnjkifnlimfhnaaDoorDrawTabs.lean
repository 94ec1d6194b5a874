/- spec.l92Tables: tables of houses are drawn. -/
import Derived.Test.YtnjkifnlimfhnaaDoorDrawHoms
import Derived.Test.YtnjkifnlimfhnaaDoorDrawTab
import Derived.Test.YtnjkifnlimfhnaaDoorSendTabs
namespace Go.Proofs.YtnjkifnlimfhnaaDoor
open Go.RowKit
set_option linter.unusedVariables false

theorem RS.setTab {k : Nat} {a : Option Addr} {len' cap : Nat} {zs : List Int} {w W : World} {q m n : Nat} {v : Value} {n' g c' : Nat} {tt : List (List Ent)} (h : RS k a len' cap zs w W q v m n) (hT : TabsL W w.heap.size (.slice (some ⟨g, 0, none⟩) n' c') tt) (j : Nat) (u : Value) : RS k a len' cap zs w (W.setCell ⟨g, j, none⟩ u) q (.slice none 0 0) 0 0 := by
  obtain ⟨vs, t1, t2, t3⟩ := hT
  have hg := (World.ownsRow.lt t2 g rfl).1
  exact RS.of (RdAt.off h.rd hg h.far) (Only.setFar h.on hg) h.far
def Tabs3 (ls : List (List Ent)) : Prop := ls.length ≤ 5 ∧ ∀ i, i < ls.length → (ls.getD i []).length ≤ 60
def TabsPost (k : Nat) (a : Option Addr) (len' cap : Nat) (zs : List Int) (p : Nat) (w : World) (e : Ending) (w' : World) : Prop :=
  ∃ (v : Value) (h ad : Int) (q : Nat) (ls : List (List Ent)), e = .returned (.tuple #[v, .int .i64 h, .int .i64 ad]) ∧ 1 ≤ h ∧ h ≤ 5 ∧ 0 ≤ ad ∧ ad ≤ 600 ∧ p ≤ q ∧ q ≤ p + 800 ∧ RdAt w' k a len' cap zs q ∧ Only k w w' ∧ TabsL w' w.heap.size v ls ∧ Tabs3 ls
theorem sendTabs_len {rs : List (List Int)} {l : List Ent} {n : Nat} : (sendTabsF rs l n).length = 0 ∨ (sendTabsF rs l n).length = n := by
  unfold sendTabsF
  split
  · right; exact homesTo_len _ _ _ _
  · left; rfl
theorem sendTabs3 {rs : List (List Int)} {l : List Ent} {n : Nat} (h5 : n ≤ 5) (hl : l.length ≤ 60) : Tabs3 (sendTabsF rs l n) := by
  refine ⟨by rcases sendTabs_len (rs := rs) (l := l) (n := n) with e | e <;> omega, fun i hi => ?_⟩
  unfold sendTabsF at hi ⊢
  split
  · rename_i h
    rw [if_pos h, homesTo_len] at hi
    have := homesTo_short rs n l l.length i hi
    omega
  · simp
theorem tabs3_set {ls : List (List Ent)} {l : List Ent} {j : Nat} (h : Tabs3 ls) (hl : l.length ≤ 60) : Tabs3 (ls.set j l) := by
  refine ⟨by rw [List.length_set]; exact h.1, fun i hi => ?_⟩
  rw [List.length_set] at hi
  by_cases hij : i = j
  · subst hij
    have e : (ls.set i l).getD i [] = l := by simp [hi]
    rw [e]; exact hl
  · have e : (ls.set j l).getD i [] = ls.getD i [] := by simp [Ne.symm hij]
    rw [e]; exact h.2 i hi
set_option maxRecDepth 100000 in
set_option maxHeartbeats 8000000 in
theorem l92Tables_any (k : Nat) (a : Option Addr) (len' cap : Nat) (zs : List Int) (p : Nat) (w : World) (hp : p ≤ 70000) (hkw : k < w.heap.size) (hR : RdAt w k a len' cap zs p) :
    Calls Tryd.prog 31 #[.pointer (some ⟨k, 0, none⟩)] w (TabsPost k a len' cap zs p w) := by
  unfold TabsPost
  have HR := Lib.hid hR
  clear hR
  go_enter Tryd.func31, Tryd.ntmps31
  go_wp2_with fail
  refine (l92Homes_any k a len' cap zs p w (by omega) hkw HR.out).mono ?_
  rintro e w1 ⟨mv, hv, n, q, l, rfl, hn2, hn5, hq0, hq1, hS, hH, hl5⟩
  obtain ⟨ma, mc, e, hmc, hmm⟩ := hS.mat.form
  subst e
  obtain ⟨ha, hc, e, hhc, hhm⟩ := hH.form
  subst e
  obtain ⟨L, hL⟩ : ∃ L, l.length = L := ⟨_, rfl⟩
  rw [hL] at hH hhc hl5 ⊢
  obtain ⟨rs, hrl, hrr, hrn⟩ := hS.mat.rows
  have hq : Square rs n := ⟨hrl, hrn⟩
  have hs1 := hS.size
  have HCS := Lib.hid (specSendTables_any _ _ rs l n w1 hrr hq hH.ents (by omega) hn5 (by omega))
  have HQ := Lib.hid hq
  have HL := Lib.hid hL
  have S := Lib.hid hS
  have Hm := Lib.hid hH
  clear hS hH HR hq hL hrr hrn
  go_wp2_with fail
  refine HCS.out.mono ?_
  rintro e w2 ⟨tv, rfl, hT, hb2⟩
  have S2 := Lib.hid (S.out.below hb2)
  have Hm2 := Lib.hid (Hm.out.below hb2)
  have T2 := Lib.hid (hT.lift hs1)
  have RW2 := Lib.hid hrl
  clear hT hb2 S Hm HCS hrl
  obtain ⟨ta, tc, e, htc, htm⟩ := T2.out.form
  subst e
  obtain ⟨tt, htt⟩ : ∃ t, sendTabsF rs l n = t := ⟨_, rfl⟩
  have ht3 : Tabs3 tt := by rw [← htt]; exact sendTabs3 hn5 (by rw [HL.out]; omega)
  rw [htt] at T2 htc ⊢
  obtain ⟨tn, htn⟩ : ∃ m, tt.length = m := ⟨_, rfl⟩
  have htn5 : tn ≤ 5 := by rw [← htn]; exact ht3.1
  rw [htn] at T2 htc ⊢
  have HTN := Lib.hid htn
  have HT3 := Lib.hid ht3
  clear htt htn ht3
  have S := Lib.hid S2.out
  clear S2
  go_wp2_with fail
  refine (pick_any 256 k a len' cap zs _ _ (by omega) (RS.rd (by first | exact S.out | exact S.out.drew | exact S.out.alloc _ | exact (S.out.drew).alloc _ | exact (S.out.alloc _).drew | exact (S.out.alloc _).alloc _)) (by omega)).mono ?_
  rintro e w3 ⟨x0, rfl, x00, x01, hr, hO, hs⟩
  (try simp at hs)
  have S := Lib.hid (RS.picked (by first | exact S.out | exact S.out.drew | exact S.out.alloc _ | exact (S.out.drew).alloc _ | exact (S.out.alloc _).drew | exact (S.out.alloc _).alloc _) hr hO)
  clear hr
  have T3 := Lib.hid (T2.out.only hO hkw)
  have Hm3 := Lib.hid (Hm2.out.only hO hkw)
  clear hO hs T2 Hm2
  go_upto_region 4 with fail
  go_cut [32] (fun s32 wx => ∃ (b : Bool) (q' : Nat), s32 = .bool b ∧ (b = true → 0 < L ∧ ∀ i, i < L → rangeOkF (l.getD i (0, 0, 0)).1 (l.getD i (0, 0, 0)).2.1 = true) ∧ p ≤ q' ∧ q' ≤ p + 202 ∧ Hid (RS k a len' cap zs w wx q' (.slice ma n mc) n n) ∧ Hid (TabsL wx w.heap.size (.slice ta tn tc) tt) ∧ Hid (HomNew wx w.heap.size (.slice ha L hc) l))
  case first =>
    by_cases hL0 : L = 0
    · subst hL0
      go_wp2_with fail
      go_meet
      exact ⟨false, _, rfl, (fun h => by cases h), by omega, by omega, S, T3, Hm3⟩
    · have hLI : (0 : Int) < (L : Int) := by omega
      have hLN : 0 < L := by omega
      go_wp2_with fail
      refine (pick_any 3 k a len' cap zs _ _ (by omega) (RS.rd (by first | exact S.out | exact S.out.drew | exact S.out.alloc _ | exact (S.out.drew).alloc _ | exact (S.out.alloc _).drew | exact (S.out.alloc _).alloc _)) (by omega)).mono ?_
      rintro e w4 ⟨x1, rfl, x10, x11, hr, hO, hs⟩
      (try simp at hs)
      have S := Lib.hid (RS.picked (by first | exact S.out | exact S.out.drew | exact S.out.alloc _ | exact (S.out.drew).alloc _ | exact (S.out.alloc _).drew | exact (S.out.alloc _).alloc _) hr hO)
      clear hr
      have T4 := Lib.hid (T3.out.only hO hkw)
      have Hm4 := Lib.hid (Hm3.out.only hO hkw)
      clear hO hs T3 Hm3
      by_cases hx1 : x1 = 0
      · subst hx1
        go_wp2_with fail
        go_meet
        exact ⟨false, _, rfl, (fun h => by cases h), by omega, by omega, S, T4, Hm4⟩
      · have hx1I : 0 < x1 := by omega
        obtain ⟨rs2, _, hrr, _⟩ := S.out.mat.rows
        have hok := specHomesOk_any _ _ rs2 l w4 hrr Hm4.out.ents
        have hrange := fun h => homesOk_range (rs := rs2) (l := l) h
        obtain ⟨B, hB⟩ : ∃ B, homesOkF rs2 l = B := ⟨_, rfl⟩
        rw [hB] at hok hrange
        have HOK := Lib.hid hok
        have HRG := Lib.hid hrange
        clear hok hrange hB hrr
        go_wp2_with fail
        refine HOK.out.mono ?_
        rintro e w5 ⟨rfl, hb5⟩
        have S5 := Lib.hid (S.out.below hb5)
        have T5 := Lib.hid (T4.out.below hb5)
        have Hm5 := Lib.hid (Hm4.out.below hb5)
        clear hb5 S T4 Hm4
        go_wp2_with fail
        go_meet
        exact ⟨B, _, rfl, fun h => ⟨hLN, fun i hi => HRG.out h i (by rw [HL.out]; exact hi)⟩, by omega, by omega, S5, T5, Hm5⟩
  case rest =>
    clear S T3 Hm3
    obtain ⟨b, q4, rfl, hb, hq40, hq41, S, T, Hm⟩ := hcut
    have HB := Lib.hid hb
    clear hb
    go_upto_if 32 with fail
    go_cut [8] (fun s8 wx => ∃ (ad : Int) (q' : Nat), s8 = .int .i64 ad ∧ 0 ≤ ad ∧ ad ≤ 600 ∧ p ≤ q' ∧ q' ≤ p + 210 ∧ Hid (RS k a len' cap zs w wx q' (.slice ma n mc) n n) ∧ Hid (TabsL wx w.heap.size (.slice ta tn tc) tt))
    case first =>
      cases b
      · go_wp2_with fail
        go_meet
        exact ⟨x0, _, rfl, by omega, by omega, by omega, by omega, S, T⟩
      · obtain ⟨hLN, hrg⟩ := HB.out rfl
        have HRG := Lib.hid hrg
        have hLI : (0 : Int) < (L : Int) := by omega
        clear hrg
        go_wp2_with fail
        refine (pick_any L k a len' cap zs _ _ (by omega) (RS.rd (by first | exact S.out | exact S.out.drew | exact S.out.alloc _ | exact (S.out.drew).alloc _ | exact (S.out.alloc _).drew | exact (S.out.alloc _).alloc _)) (by omega)).mono ?_
        rintro e w4 ⟨xi, rfl, xi0, xi1, hr, hO, hs⟩
        (try simp at hs)
        have S := Lib.hid (RS.picked (by first | exact S.out | exact S.out.drew | exact S.out.alloc _ | exact (S.out.drew).alloc _ | exact (S.out.alloc _).drew | exact (S.out.alloc _).alloc _) hr hO)
        clear hr
        have T4 := Lib.hid (T.out.only hO hkw)
        have Hm4 := Lib.hid (Hm.out.only hO hkw)
        clear hO hs T Hm
        obtain ⟨i, hi⟩ : ∃ i : Nat, xi = (i : Int) := ⟨xi.toNat, by omega⟩
        subst hi
        have hiL : i < L := by omega
        obtain ⟨lb, loff, rfl, hlb, y0, y1, y2⟩ := Hm4.out.ents.get i hiL
        have hr := HRG.out i hiL
        obtain ⟨ent, hent⟩ : ∃ e, l.getD i (0, 0, 0) = e := ⟨_, rfl⟩
        rw [hent] at y0 y1 y2 hr
        obtain ⟨f, bt, ho⟩ := ent
        simp only at y0 y1 y2 hr
        have hrb : 0 ≤ f ∧ f ≤ 255 ∧ 0 ≤ bt ∧ bt ≤ 8 := by unfold rangeOkF addrF at hr; simp only [Bool.and_eq_true, decide_eq_true_eq] at hr; omega
        obtain ⟨f0, f1, b0, b1⟩ := hrb
        obtain ⟨Z, hZ⟩ : ∃ Z, sizeF bt = Z := ⟨_, rfl⟩
        have hZ0 := sizeF_pos bt
        have hZ1 := sizeF_le bt b0
        have hsz : ∀ W, Calls Tryd.prog 52 #[.int .i64 bt] W fun e w' => e = .returned (.int .i64 Z) ∧ w' = W := fun W => by rw [← hZ]; exact l1Size_any bt b0 b1 W
        rw [hZ] at hZ0 hZ1
        have HS := Lib.hid hsz
        clear hsz hZ hr hent
        have S5 := Lib.hid (S.out.alloc (.cells #[.int .i64 f, .int .i64 bt, .int .i64 ho] 37))
        have hkw4 : k < w4.heap.size := S.out.rd.lt
        go_wp2_with fail
        go_region_law (first
          | (go_simp; go_at_call 40; refine (pick_any Z k a len' cap zs _ _ (by omega) (RS.rd (by first | exact S5.out.drew | exact S5.out)) (by omega)).mono ?_; rintro e w5 ⟨xa, rfl, xa0, xa1, hr, hO, hs⟩; have S6 := Lib.hid (RS.picked (by first | exact S5.out.drew | exact S5.out) hr hO); have T6 := Lib.hid (TabsL.only (TabsL.below T4.out (by repeat (first | exact Below.refl _ _ | assumption | refine Below.drew ?_ | refine belowDrewN ?_ _ | refine Below.alloc ?_ (by first | exact Nat.le_refl _ | omega | (simp; done) | (simp; omega)) _ | refine Below.setCell ?_ (by first | exact Nat.le_refl _ | omega | (simp; done) | (simp; omega)) _))) hO hkw); have v0 : w5.cell? ⟨w4.heap.size, 0, none⟩ = some (.int .i64 f) := ((hO.cell (p := ⟨w4.heap.size, 0, none⟩) (by simp) (by simp; omega)).trans (by simp)); have v1 : w5.cell? ⟨w4.heap.size, 1, none⟩ = some (.int .i64 bt) := ((hO.cell (p := ⟨w4.heap.size, 1, none⟩) (by simp) (by simp; omega)).trans (by simp)); have hwx : IntKind.i64.wrap (f + xa) = f + xa := IntWalk.i64_in _ (by omega); clear hr hO hs)
          | (go_simp; go_at_call 52; refine (HS.out _).mono ?_; rintro e wz ⟨rfl, rfl⟩))
        all_goals
          go_wp2_with fail
          go_meet
          exact ⟨f + xa, _, rfl, by omega, by omega, by omega, by omega, S6, T6⟩
    case rest =>
      clear S T Hm
      obtain ⟨ad, q5, rfl, ha0, ha1, hq50, hq51, S, T⟩ := hcut
      by_cases htn0 : tn = 0
      · subst htn0
        go_wp2_with fail
        refine (pick_any n k a len' cap zs _ _ (by omega) (RS.rd (by first | exact S.out | exact S.out.drew | exact S.out.alloc _ | exact (S.out.drew).alloc _ | exact (S.out.alloc _).drew | exact (S.out.alloc _).alloc _)) (by omega)).mono ?_
        rintro e w6 ⟨xh, rfl, xh0, xh1, hr, hO, hs⟩
        (try simp at hs)
        have S := Lib.hid (RS.picked (by first | exact S.out | exact S.out.drew | exact S.out.alloc _ | exact (S.out.drew).alloc _ | exact (S.out.alloc _).drew | exact (S.out.alloc _).alloc _) hr hO)
        clear hr
        have T6 := Lib.hid (T.out.only hO hkw)
        clear hO hs T
        go_wp2_with fail
        refine bodyPost_ret (v := .tuple #[.slice ta 0 tc, .int .i64 (1 + xh), .int .i64 ad]) (by simp [results, Tryd.results31, go_sem]) rfl ?_
        exact ⟨_, _, _, _, tt, rfl, by omega, by omega, ha0, ha1, by omega, by omega, S.out.rd, S.out.on, T6.out, HT3.out⟩
      · have htI : (0 : Int) < (tn : Int) := by omega
        have htN : 0 < tn := by omega
        go_wp2_with fail
        refine (pick_any 8 k a len' cap zs _ _ (by omega) (RS.rd (by first | exact S.out | exact S.out.drew | exact S.out.alloc _ | exact (S.out.drew).alloc _ | exact (S.out.alloc _).drew | exact (S.out.alloc _).alloc _)) (by omega)).mono ?_
        rintro e w6 ⟨xt, rfl, xt0, xt1, hr, hO, hs⟩
        (try simp at hs)
        have S := Lib.hid (RS.picked (by first | exact S.out | exact S.out.drew | exact S.out.alloc _ | exact (S.out.drew).alloc _ | exact (S.out.alloc _).drew | exact (S.out.alloc _).alloc _) hr hO)
        clear hr
        have T6 := Lib.hid (T.out.only hO hkw)
        clear hO hs T
        by_cases hxt : xt = 0
        · subst hxt
          go_wp2_with fail
          refine (pick_any tn k a len' cap zs _ _ (by omega) (RS.rd (by first | exact S.out | exact S.out.drew | exact S.out.alloc _ | exact (S.out.drew).alloc _ | exact (S.out.alloc _).drew | exact (S.out.alloc _).alloc _)) (by omega)).mono ?_
          rintro e w7 ⟨xj, rfl, xj0, xj1, hr, hO, hs⟩
          (try simp at hs)
          have S := Lib.hid (RS.picked (by first | exact S.out | exact S.out.drew | exact S.out.alloc _ | exact (S.out.drew).alloc _ | exact (S.out.alloc _).drew | exact (S.out.alloc _).alloc _) hr hO)
          clear hr
          have T7 := Lib.hid (T6.out.only hO hkw)
          clear hO hs T6
          obtain ⟨j, hj⟩ : ∃ j : Nat, xj = (j : Int) := ⟨xj.toNat, by omega⟩
          subst hj
          have hjn : j < tn := by omega
          go_wp2_with fail
          refine (l91Table_any k a len' cap zs _ _ (by omega) S.out.rd.lt S.out.rd).mono ?_
          rintro e w8 ⟨nv, q8, nl, rfl, hq80, hq81, hR8, hO8, hT8, hl8⟩
          have hs7 : w.heap.size ≤ w7.heap.size := S.out.size
          have S8 := Lib.hid (S.out.picked hR8 hO8)
          have T8 := Lib.hid (T7.out.only hO8 hkw)
          have N8 := Lib.hid (hT8.lift hs7)
          clear hR8 hO8 hT8 S T7
          obtain ⟨na, nc, e, _, _⟩ := N8.out.form
          subst e
          obtain ⟨g, gc, u, e, hgl, hgs, g0, g1, _⟩ := T8.out.get HTN.out j hjn
          simp only [Value.slice.injEq] at e
          obtain ⟨rfl, _, rfl⟩ := e
          obtain ⟨nn, hnn⟩ : ∃ m, nl.length = m := ⟨_, rfl⟩
          rw [hnn] at N8 hl8 ⊢
          have HNN := Lib.hid hnn
          have T9 := Lib.hid (T8.out.set HTN.out j hjn N8.out)
          have S := Lib.hid (S8.out.setTab T8.out j (.slice na nn nc))
          clear S8 T8 N8 hnn
          go_wp2_with fail
          refine (pick_any n k a len' cap zs _ _ (by omega) (RS.rd (by first | exact S.out | exact S.out.drew | exact S.out.alloc _ | exact (S.out.drew).alloc _ | exact (S.out.alloc _).drew | exact (S.out.alloc _).alloc _)) (by omega)).mono ?_
          rintro e w9 ⟨xh, rfl, xh0, xh1, hr, hO, hs⟩
          (try simp at hs)
          have S := Lib.hid (RS.picked (by first | exact S.out | exact S.out.drew | exact S.out.alloc _ | exact (S.out.drew).alloc _ | exact (S.out.alloc _).drew | exact (S.out.alloc _).alloc _) hr hO)
          clear hr
          have T10 := Lib.hid (T9.out.only hO hkw)
          clear hO hs T9
          go_wp2_with fail
          refine bodyPost_ret (v := .tuple #[.slice (some ⟨g, 0, none⟩) tn tc, .int .i64 (1 + xh), .int .i64 ad]) (by simp [results, Tryd.results31, go_sem]) rfl ?_
          exact ⟨_, _, _, _, _, rfl, by omega, by omega, ha0, ha1, by omega, by omega, S.out.rd, S.out.on, T10.out, tabs3_set HT3.out (by rw [HNN.out]; omega)⟩
        · have hxb : (xt == 0) = false := by simp [hxt]
          go_wp2_with fail
          refine (pick_any n k a len' cap zs _ _ (by omega) (RS.rd (by first | exact S.out | exact S.out.drew | exact S.out.alloc _ | exact (S.out.drew).alloc _ | exact (S.out.alloc _).drew | exact (S.out.alloc _).alloc _)) (by omega)).mono ?_
          rintro e w7 ⟨xh, rfl, xh0, xh1, hr, hO, hs⟩
          (try simp at hs)
          have S := Lib.hid (RS.picked (by first | exact S.out | exact S.out.drew | exact S.out.alloc _ | exact (S.out.drew).alloc _ | exact (S.out.alloc _).drew | exact (S.out.alloc _).alloc _) hr hO)
          clear hr
          have T7 := Lib.hid (T6.out.only hO hkw)
          clear hO hs T6
          go_wp2_with fail
          refine bodyPost_ret (v := .tuple #[.slice ta tn tc, .int .i64 (1 + xh), .int .i64 ad]) (by simp [results, Tryd.results31, go_sem]) rfl ?_
          exact ⟨_, _, _, _, tt, rfl, by omega, by omega, ha0, ha1, by omega, by omega, S.out.rd, S.out.on, T7.out, HT3.out⟩
end Go.Proofs.YtnjkifnlimfhnaaDoor
