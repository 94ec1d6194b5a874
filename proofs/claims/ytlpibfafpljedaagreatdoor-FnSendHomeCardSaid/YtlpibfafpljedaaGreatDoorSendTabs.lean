/- spec.SendTables, walked. -/
import Derived.Test.YtlpibfafpljedaaGreatDoorTabsL
import Derived.Test.YtlpibfafpljedaaGreatDoorRelsOkS
import Derived.Test.YtlpibfafpljedaaGreatDoorPick31
namespace Go.Proofs.YtlpibfafpljedaaGreatDoor
open Go.RowKit
set_option linter.unusedVariables false

/-- house h + 1's table with one home more -/
def putHome (ways : List (List Int)) (e : Ent) (h : Nat) (t : List Ent) : List Ent :=
  if (h : Int) + 1 = e.2.2 then putF t (e.1, e.2.1, (h : Int) + 1) else if ways.getD h [] ≠ [] then putF t (e.1, e.2.1, (ways.getD h []).getD 1 0) else t
def homeTo (ways : List (List Int)) (n : Nat) (e : Ent) (tabs : List (List Ent)) (c : Nat) : List (List Ent) := (List.range n).map fun h => if h < c then putHome ways e h (tabs.getD h []) else tabs.getD h []
def homeStep (rs : List (List Int)) (n : Nat) (tabs : List (List Ent)) (e : Ent) : List (List Ent) := homeTo (end31 rs e.2.2 n) n e tabs n
def homesTo (rs : List (List Int)) (n : Nat) (l : List Ent) (i : Nat) : List (List Ent) := (List.range i).foldl (fun tabs j => homeStep rs n tabs (l.getD j (0, 0, 0))) ((List.range n).map fun _ => [])
def sendTabsF (rs : List (List Int)) (l : List Ent) (n : Nat) : List (List Ent) := if homesOkF rs l = true then homesTo rs n l l.length else []
theorem homeTo_len (ways : List (List Int)) (n : Nat) (e : Ent) (tabs : List (List Ent)) (c : Nat) : (homeTo ways n e tabs c).length = n := by simp [homeTo]
theorem homeTo_get {ways : List (List Int)} {n : Nat} {e : Ent} {tabs : List (List Ent)} {c h : Nat} (hh : h < n) : (homeTo ways n e tabs c).getD h [] = if h < c then putHome ways e h (tabs.getD h []) else tabs.getD h [] := by unfold homeTo; simp [hh]
theorem homeTo_zero {ways : List (List Int)} {n : Nat} {e : Ent} {tabs : List (List Ent)} (hl : tabs.length = n) : homeTo ways n e tabs 0 = tabs := by
  subst hl
  apply List.ext_getElem
  · simp [homeTo]
  · intro i h1 h2
    simp [homeTo, List.getElem?_eq_getElem h2]
theorem homeTo_set {ways : List (List Int)} {n : Nat} {e : Ent} {tabs : List (List Ent)} {c : Nat} (hc : c < n) : (homeTo ways n e tabs c).set c (putHome ways e c (tabs.getD c [])) = homeTo ways n e tabs (c + 1) := by
  apply List.ext_getElem
  · simp [homeTo]
  · intro i h1 h2
    rw [List.getElem_set]
    simp only [homeTo, List.getElem_map, List.getElem_range]
    by_cases hic : c = i
    · subst hic; rw [if_pos rfl, if_pos (by omega)]
    · rw [if_neg hic]
      by_cases hlt : i < c
      · rw [if_pos hlt, if_pos (by omega)]
      · rw [if_neg hlt, if_neg (by omega)]
theorem homeTo_same {ways : List (List Int)} {n : Nat} {e : Ent} {tabs : List (List Ent)} {c : Nat} (hc : c < n) (hp : putHome ways e c (tabs.getD c []) = tabs.getD c []) : homeTo ways n e tabs (c + 1) = homeTo ways n e tabs c := by
  apply List.ext_getElem
  · simp [homeTo]
  · intro i h1 h2
    simp only [homeTo, List.getElem_map, List.getElem_range]
    by_cases hic : i = c
    · subst hic; rw [if_pos (by omega), if_neg (by omega), hp]
    · by_cases hlt : i < c
      · rw [if_pos hlt, if_pos (by omega)]
      · rw [if_neg hlt, if_neg (by omega)]
theorem putHome_len (ways : List (List Int)) (e : Ent) (h : Nat) (t : List Ent) : (putHome ways e h t).length ≤ t.length + 1 := by
  unfold putHome
  split
  · exact putF_len _ _
  · split
    · exact putF_len _ _
    · omega
theorem homesTo_succ (rs : List (List Int)) (n : Nat) (l : List Ent) (i : Nat) : homesTo rs n l (i + 1) = homeStep rs n (homesTo rs n l i) (l.getD i (0, 0, 0)) := foldl_range_succ _ _ _
theorem homesTo_len (rs : List (List Int)) (n : Nat) (l : List Ent) (i : Nat) : (homesTo rs n l i).length = n := by
  cases i with
  | zero => simp [homesTo]
  | succ i => rw [homesTo_succ]; exact homeTo_len _ _ _ _ _
theorem homesTo_short (rs : List (List Int)) (n : Nat) (l : List Ent) : ∀ i h, h < n → ((homesTo rs n l i).getD h []).length ≤ i
  | 0, h, hh => by simp [homesTo, hh]
  | i + 1, h, hh => by
    rw [homesTo_succ]
    unfold homeStep
    rw [homeTo_get hh, if_pos hh]
    exact Nat.le_trans (putHome_len _ _ _ _) (by have := homesTo_short rs n l i h hh; omega)
theorem homeTo_short {ways : List (List Int)} {n : Nat} {e : Ent} {tabs : List (List Ent)} {c L : Nat} (hs : ∀ h, h < n → (tabs.getD h []).length ≤ L) : ∀ h, h < n → ((homeTo ways n e tabs c).getD h []).length ≤ L + 1 := fun h hh => by
  rw [homeTo_get hh]
  split
  · exact Nat.le_trans (putHome_len _ _ _ _) (by have := hs h hh; omega)
  · have := hs h hh; omega
set_option maxRecDepth 100000 in
set_option maxHeartbeats 8000000 in
theorem specSendTables_any (v hv : Value) (rs : List (List Int)) (l : List Ent) (n : Nat) (w : World) (hr : RowsAt w v rs) (hq : Square rs n) (hh : EntsAt w hv l) (hn : 1 ≤ n) (h5 : n ≤ 5) (hll : l.length ≤ 100) :
    Calls Tryz.prog 7 #[v, hv] w fun e w' => ∃ v', e = .returned v' ∧ TabsL w' w.heap.size v' (sendTabsF rs l n) ∧ Below w.heap.size w w' := by
  obtain ⟨ra, rc, rfl, hrc, hrm⟩ := hr.form
  obtain ⟨la, lc, rfl, hlc, hlm⟩ := hh.form
  have hok := specHomesOk_any _ _ rs l w hr hh
  rw [hq.1] at hr hrc hok ⊢
  obtain ⟨L, hL⟩ : ∃ L, l.length = L := ⟨_, rfl⟩
  rw [hL] at hh hlc hok hll ⊢
  obtain ⟨B, hB⟩ : ∃ B, homesOkF rs l = B := ⟨_, rfl⟩
  rw [hB] at hok
  have HOK := Lib.hid hok
  have HL := Lib.hid hL
  have H := Lib.hid hh
  have hend : ∀ W e, Below w.heap.size w W → Calls Tryz.prog 20 #[.slice ra n rc, .int .i64 e] W fun r w' => ∃ v', r = .returned v' ∧ RowsL w' W.heap.size v' (end31 rs e n) ∧ Below W.heap.size W w' := fun W e hb => l31End_any _ rs n e W (hr.below hb) hq hn h5
  have HEND := Lib.hid hend
  have hfar : ∀ e : Int, Far31 (end31 rs e n) e n ∧ (end31 rs e n).length = n := fun e => ⟨endTo31_far _, (endTo31_ways hq.1 hn _).len⟩
  have HFAR := Lib.hid hfar
  have hokW : Calls Tryz.prog 19 #[.slice ra n rc, .slice la L lc] (w.alloc (.cells #[] 42)) fun e w' => e = .returned (.bool B) ∧ Below (w.heap.size + 1) (w.alloc (.cells #[] 42)) w' := by
    have hA := Below.alloc (Below.refl w.heap.size w) (Nat.le_refl _) (.cells #[] 42)
    have := specHomesOk_any (.slice ra n rc) (.slice la L lc) rs l _ (hr.below hA) (H.out.below hA)
    rw [hB, World.size_alloc] at this
    exact this
  have HOKW := Lib.hid hokW
  clear hok hL hh hend hr hfar hokW
  cases B
  · have hF : sendTabsF rs l n = [] := by unfold sendTabsF; rw [hB]; rfl
    rw [hF]
    have T0 := Lib.hid (TabsL.zero w)
    clear hF hB
    go_enter Tryz.func7, Tryz.ntmps7
    go_wp2_with fail
    refine HOKW.out.mono ?_
    rintro e w1 ⟨rfl, hb1⟩
    have T1 := Lib.hid (T0.out.below (by rw [World.size_alloc]; exact hb1))
    have B1 := Lib.hid (Below.trans (Below.alloc (Below.refl w.heap.size w) (Nat.le_refl _) (.cells #[] 42)) (hb1.mono (by omega)))
    clear hb1
    go_wp2_with fail
    go_ret
    exact ⟨_, rfl, T1.out, B1.out⟩
  · have hF : sendTabsF rs l n = homesTo rs n l L := by unfold sendTabsF; rw [hB, if_pos rfl, HL.out]
    rw [hF]
    have T0 := Lib.hid (TabsL.zero w)
    clear hF hB
    go_enter Tryz.func7, Tryz.ntmps7
    go_wp2_with fail
    refine HOKW.out.mono ?_
    rintro e w1 ⟨rfl, hb1⟩
    have T1 := Lib.hid (T0.out.below (by rw [World.size_alloc]; exact hb1))
    have B1 := Lib.hid (Below.trans (Below.alloc (Below.refl w.heap.size w) (Nat.le_refl _) (.cells #[] 42)) (hb1.mono (by omega)))
    clear hb1 T0
    go_wp2_with fail
    go_loopg [5, 6] n (fun gk s5 s6 wr => ∃ i : Nat, s6 = .int .i64 (i : Int) ∧ i + gk = n ∧ Hid (TabsL wr w.heap.size s5 ((List.range i).map fun _ => [])) ∧ Hid (Below w.heap.size w wr))
    case atStart => exact ⟨0, rfl, by omega, T1, B1⟩
    case round =>
      clear T1 B1
      obtain ⟨i, rfl, hi, O, BB⟩ := hrel
      obtain ⟨oa, oc, e, hoc, hocm⟩ := O.out.form
      subst e
      have hlen : ((List.range i).map fun _ => ([] : List Ent)).length = i := by simp
      rw [hlen] at hoc O ⊢
      have HLN := Lib.hid hlen
      clear hlen
      have hswr : w.heap.size ≤ wr.heap.size := BB.out.size
      by_cases hg : gk = 0
      · subst hg
        obtain rfl : i = n := by omega
        have hdn : decide ((i : Int) < (i : Int)) = false := by simp
        clear hi
        have O2 : Hid (TabsL wr w.heap.size (.slice oa i oc) (homesTo rs i l 0)) := O
        clear O
        go_wp2_with fail
        go_loopg [7] L (fun gk s7 wr => ∃ c : Nat, s7 = .int .i64 (c : Int) ∧ c + gk = L ∧ Hid (TabsL wr w.heap.size (.slice oa i oc) (homesTo rs i l c)) ∧ Hid (Below w.heap.size w wr))
        case atStart => exact ⟨0, rfl, by omega, O2, BB⟩
        case round =>
          clear O2 BB HLN
          obtain ⟨c, rfl, hc, O, BB⟩ := hrel
          by_cases hg : gk = 0
          · subst hg
            obtain rfl : c = L := by omega
            have hdn : decide ((c : Int) < (c : Int)) = false := by simp
            go_wp2_with fail
            go_ret
            exact ⟨_, rfl, O.out, BB.out⟩
          · have hcL : c < L := by omega
            have hcI : (c : Int) < (L : Int) := by omega
            have c0 : (0 : Int) ≤ (c : Int) := by omega
            have hgk : 1 ≤ gk := by omega
            have HC := Lib.hid hc
            obtain ⟨lb, loff, rfl, hlb, y0, y1, y2⟩ := (H.out.below BB.out).get c hcL
            obtain ⟨ent, hent⟩ : ∃ e, l.getD c (0, 0, 0) = e := ⟨_, rfl⟩
            rw [hent] at y0 y1 y2
            obtain ⟨f, bt, ho⟩ := ent
            simp only at y0 y1 y2
            have hnx : homesTo rs i l (c + 1) = homeTo (end31 rs ho i) i (f, bt, ho) (homesTo rs i l c) i := by rw [homesTo_succ, hent]; rfl
            have HNX := Lib.hid hnx
            have HCE := Lib.hid (HEND.out wr ho BB.out)
            have hFar := (HFAR.out ho).1
            have hEl := (HFAR.out ho).2
            have HFA := Lib.hid hFar
            obtain ⟨tabs, htabs⟩ : ∃ t, homesTo rs i l c = t := ⟨_, rfl⟩
            have htl : tabs.length = i := by rw [← htabs]; exact homesTo_len _ _ _ _
            have hts : ∀ h, h < i → (tabs.getD h []).length ≤ 100 := fun h hh => by rw [← htabs]; have := homesTo_short rs i l c h hh; omega
            have HTS := Lib.hid hts
            rw [htabs] at O HNX
            have HENT := Lib.hid hent
            clear hnx hent hFar htabs hts hc hg
            obtain ⟨ways, hways⟩ : ∃ t, end31 rs ho i = t := ⟨_, rfl⟩
            rw [hways] at HNX HCE HFA hEl
            have HEL := Lib.hid hEl
            have HTL := Lib.hid htl
            clear hways hEl htl
            obtain ⟨G, hG⟩ : ∃ G, G = gk := ⟨_, rfl⟩
            go_wp2_with fail
            refine HCE.out.mono ?_
            rintro e w2 ⟨wv, rfl, hR2, hb2⟩
            have hswr2 : w.heap.size ≤ wr.heap.size := BB.out.size
            have O2 := Lib.hid (O.out.below hb2)
            have R2 := Lib.hid (hR2.lift (Nat.zero_le _))
            have B2 := Lib.hid (BB.out.trans (hb2.mono hswr2))
            have RL := Lib.hid hR2
            clear hR2 hb2 O RL
            obtain ⟨wva, wvc, e, hwvc, hwvm⟩ := R2.out.form
            subst e
            rw [HEL.out] at hwvc R2 ⊢
            have O3 : Hid (TabsL w2 w.heap.size (.slice oa i oc) (homeTo ways i (f, bt, ho) tabs 0)) := Lib.hid (by rw [homeTo_zero HTL.out]; exact O2.out)
            clear O2
            go_wp2_with fail
            obtain ⟨w2, rfl⟩ : ∃ W, W = w2 := ⟨_, rfl⟩
            go_loopg [9] i (fun gk s9 wr => ∃ h : Nat, s9 = .int .i64 (h : Int) ∧ h + gk = i ∧ Hid (TabsL wr w.heap.size (.slice oa i oc) (homeTo ways i (f, bt, ho) tabs h)) ∧ Hid (RowsL wr 0 (.slice wva i wvc) ways) ∧ Hid (Below w.heap.size w wr))
            case atStart => exact ⟨0, rfl, by omega, O3, R2, B2⟩
            case round =>
              clear O3 R2 B2
              obtain ⟨h, rfl, hh, O, R, BB2⟩ := hrel
              by_cases hg : gk = 0
              · subst hg
                obtain rfl : h = i := by omega
                have hdn : decide ((h : Int) < (h : Int)) = false := by simp
                go_wp2_with fail
                go_roundg (G - 1)
                case measure => omega
                case rel => exact ⟨c + 1, by go_num, by have := HC.out; omega, Lib.hid (by rw [HNX.out]; exact O.out), BB2⟩
              · have hin : h < i := by omega
                have hiI : (h : Int) < (i : Int) := by omega
                have h0 : (0 : Int) ≤ (h : Int) := by omega
                have hgk2 : 1 ≤ gk := by omega
                have HH := Lib.hid hh
                obtain ⟨g, cap', u, e, hgl, hgs, x0, x1, hu⟩ := O.out.get (homeTo_len _ _ _ _ _) h hin
                simp only [Value.slice.injEq] at e
                obtain ⟨rfl, _, rfl⟩ := e
                obtain ⟨_, _, e, hlb2, y0, y1, y2⟩ := (H.out.below BB2.out).get c hcL
                simp only [Option.some.injEq, Addr.mk.injEq] at e
                obtain ⟨rfl, rfl, _⟩ := e
                rw [HENT.out] at y0 y1 y2
                simp only at y0 y1 y2
                have htb : (homeTo ways i (f, bt, ho) tabs h).getD h [] = tabs.getD h [] := by rw [homeTo_get hin, if_neg (by omega)]
                rw [htb] at hu
                obtain ⟨tb, htb2⟩ : ∃ t, tabs.getD h [] = t := ⟨_, rfl⟩
                rw [htb2] at hu
                have htl : tb.length ≤ 100 := by rw [← htb2]; exact HTS.out h hin
                have hput : ∀ x : Int, ∀ W, Below wr.heap.size wr W → Calls Tryz.prog 21 #[u, .agg #[.int .i64 f, .int .i64 bt, .int .i64 x]] W fun r w' => ∃ v', r = .returned v' ∧ EntNew w' W.heap.size v' (putF tb (f, bt, x)) ∧ Below W.heap.size W w' := fun x W hb => by
                  have := l2Put_any u tb (f, bt, x) W (hu.below hb).ents (by omega)
                  unfold entV at this
                  exact this
                have hwx : IntKind.i64.wrap ((h : Int) + 1) = (h : Int) + 1 := IntWalk.i64_in _ (by omega)
                have HP := Lib.hid hput
                have HTB := Lib.hid htb2
                clear hput htb htb2 hu htl hh hg
                by_cases hho : (h : Int) + 1 = ho
                · have hpu : putHome ways (f, bt, ho) h (tabs.getD h []) = putF tb (f, bt, (h : Int) + 1) := by unfold putHome; rw [if_pos hho, HTB.out]
                  have HPUT := Lib.hid hpu
                  have HPX := Lib.hid (HP.out ((h : Int) + 1))
                  clear hpu
                  subst hho
                  have hhb : ((h : Int) + 1 == (h : Int) + 1) = true := by simp
                  go_wp2_with fail
                  go_region_law (go_simp; go_at_call 21; refine (HPX.out _ (by first | exact Below.refl _ _ | exact Below.drew (Below.refl _ _) | repeat (first | exact Below.refl _ _ | assumption | refine Below.drew ?_ | refine belowDrewN ?_ _ | refine Below.alloc ?_ (by first | exact Nat.le_refl _ | omega | (simp; done) | (simp; omega)) _ | refine Below.setCell ?_ (by first | exact Nat.le_refl _ | omega | (simp; done) | (simp; omega)) _))).mono ?_; rintro e w3 ⟨v3, rfl, hT3, hb3⟩; have hb13 : Below wr.heap.size wr w3 := (by refine Below.trans ?_ (hb3.mono (by first | exact Nat.le_refl _ | omega | (simp; done) | (simp; omega))); repeat (first | exact Below.refl _ _ | assumption | refine Below.drew ?_ | refine belowDrewN ?_ _ | refine Below.alloc ?_ (by first | exact Nat.le_refl _ | omega | (simp; done) | (simp; omega)) _ | refine Below.setCell ?_ (by first | exact Nat.le_refl _ | omega | (simp; done) | (simp; omega)) _)); have k1 := (hb13.cell (p := ⟨g, h, none⟩) hgs).trans x0; have k2 := (hb13.frozen (p := ⟨g, h, none⟩) hgs).trans x1; have O3 := Lib.hid (O.out.below hb13); have R3 := Lib.hid (R.out.below hb13); have B3 := Lib.hid (BB2.out.trans (hb13.mono BB2.out.size)); have T3 : Hid (EntNew w3 w.heap.size v3 (putF tb (f, bt, (h : Int) + 1))) := Lib.hid (hT3.lift (by have := BB2.out.size; (try simp); omega)); obtain ⟨sa, sc, e3, _, _⟩ := hT3.form; obtain ⟨sn, hsn⟩ : ∃ sn, (putF tb (f, bt, (h : Int) + 1)).length = sn := ⟨_, rfl⟩; rw [hsn] at e3; subst e3; clear hT3 hb3 hb13 hsn)
                  all_goals
                    go_wp2_with fail
                    go_roundg (gk - 1)
                    case measure => omega
                    case rel => exact ⟨h + 1, by go_num, by have := HH.out; omega, Lib.hid (by have := O3.out.set (homeTo_len _ _ _ _ _) h hin T3.out; rw [← HPUT.out, homeTo_set hin] at this; exact this), Lib.hid (R3.out.setTab O3.out h _), Lib.hid (O3.out.setBelow B3.out (Nat.le_refl _) h _)⟩
                · have hhb : ((h : Int) + 1 == ho) = false := by simp [hho]
                  obtain ⟨wb, woff, wu, rfl, hwb, z0, hz⟩ := R.out.rows.get h hin
                  obtain ⟨wa1, wc1, e, hwc1, hwm1⟩ := hz.form
                  subst e
                  obtain ⟨wl, hwl⟩ : ∃ m, (ways.getD h []).length = m := ⟨_, rfl⟩
                  rw [hwl] at z0 hwc1 hz
                  have hfr := HFA.out h hin (by simpa using hho)
                  by_cases hw0 : wl = 0
                  · subst hw0
                    have hwe : ways.getD h [] = [] := List.length_eq_zero_iff.1 hwl
                    have hpu : putHome ways (f, bt, ho) h (tabs.getD h []) = tabs.getD h [] := by unfold putHome; rw [if_neg hho, if_neg (by rw [hwe]; simp)]
                    have HPUT := Lib.hid hpu
                    clear hpu hwe hfr hho hz hwl
                    go_wp2_with fail
                    go_roundg (gk - 1)
                    case measure => omega
                    case rel => exact ⟨h + 1, by go_num, by have := HH.out; omega, Lib.hid (by rw [homeTo_same hin HPUT.out]; exact O.out), R, BB2⟩
                  · have hwl2 : 2 ≤ wl := by
                      rcases hfr with e | e
                      · exfalso; apply hw0; rw [← hwl, e]; rfl
                      · omega
                    have hwI : (0 : Int) < (wl : Int) := by omega
                    have hwI2 : (1 : Int) < (wl : Int) := by omega
                    have hwn : 1 < wl := by omega
                    obtain ⟨zb, zoff, rfl, hzb, hz1⟩ := hz.get 1 hwn
                    obtain ⟨xv, hxv⟩ : ∃ x, (ways.getD h []).getD 1 0 = x := ⟨_, rfl⟩
                    rw [hxv] at hz1
                    have hpu : putHome ways (f, bt, ho) h (tabs.getD h []) = putF tb (f, bt, xv) := by unfold putHome; rw [if_neg hho, if_pos (by intro e; apply hw0; rw [← hwl, e]; rfl), HTB.out, hxv]
                    have HPUT := Lib.hid hpu
                    have HPX := Lib.hid (HP.out xv)
                    clear hpu hfr hho hz hwl hxv hw0
                    go_wp2_with fail
                    go_region_law (go_simp; go_at_call 21; refine (HPX.out _ (by first | exact Below.refl _ _ | exact Below.drew (Below.refl _ _) | repeat (first | exact Below.refl _ _ | assumption | refine Below.drew ?_ | refine belowDrewN ?_ _ | refine Below.alloc ?_ (by first | exact Nat.le_refl _ | omega | (simp; done) | (simp; omega)) _ | refine Below.setCell ?_ (by first | exact Nat.le_refl _ | omega | (simp; done) | (simp; omega)) _))).mono ?_; rintro e w3 ⟨v3, rfl, hT3, hb3⟩; have hb13 : Below wr.heap.size wr w3 := (by refine Below.trans ?_ (hb3.mono (by first | exact Nat.le_refl _ | omega | (simp; done) | (simp; omega))); repeat (first | exact Below.refl _ _ | assumption | refine Below.drew ?_ | refine belowDrewN ?_ _ | refine Below.alloc ?_ (by first | exact Nat.le_refl _ | omega | (simp; done) | (simp; omega)) _ | refine Below.setCell ?_ (by first | exact Nat.le_refl _ | omega | (simp; done) | (simp; omega)) _)); have k1 := (hb13.cell (p := ⟨g, h, none⟩) hgs).trans x0; have k2 := (hb13.frozen (p := ⟨g, h, none⟩) hgs).trans x1; have O3 := Lib.hid (O.out.below hb13); have R3 := Lib.hid (R.out.below hb13); have B3 := Lib.hid (BB2.out.trans (hb13.mono BB2.out.size)); have T3 : Hid (EntNew w3 w.heap.size v3 (putF tb (f, bt, xv))) := Lib.hid (hT3.lift (by have := BB2.out.size; (try simp); omega)); obtain ⟨sa, sc, e3, _, _⟩ := hT3.form; obtain ⟨sn, hsn⟩ : ∃ sn, (putF tb (f, bt, xv)).length = sn := ⟨_, rfl⟩; rw [hsn] at e3; subst e3; clear hT3 hb3 hb13 hsn)
                    all_goals
                      go_wp2_with fail
                      go_roundg (gk - 1)
                      case measure => omega
                      case rel => exact ⟨h + 1, by go_num, by have := HH.out; omega, Lib.hid (by have := O3.out.set (homeTo_len _ _ _ _ _) h hin T3.out; rw [← HPUT.out, homeTo_set hin] at this; exact this), Lib.hid (R3.out.setTab O3.out h _), Lib.hid (O3.out.setBelow B3.out (Nat.le_refl _) h _)⟩
      · have hin : (i : Int) < (n : Int) := by omega
        have hgk : 1 ≤ gk := by omega
        have hnx : ((List.range (i + 1)).map fun _ => ([] : List Ent)) = ((List.range i).map fun _ => ([] : List Ent)) ++ [[]] := map_range_succ _ _
        have HNX := Lib.hid hnx
        clear hnx
        have HI1 := Lib.hid ((EntNew.zero wr).lift hswr)
        have hA := Below.alloc (Below.refl wr.heap.size wr) (Nat.le_refl _) (.cells #[] 45)
        have O1 := Lib.hid (O.out.below hA)
        have B1 := Lib.hid (BB.out.trans (hA.mono hswr))
        clear hA
        go_wp2_with (at_builtin; refine wpList_append_tab rfl (.tmp 22) (.tmp 24) rfl w.heap.size _ _ _ [] i HLN.out rfl O1.out (by simp; omega) _ rfl (by simp) HI1.out ⟨_, _, _, rfl⟩ (by omega) ?_; intro ad c w2 hR2 hb2 hs2; have R2 := Lib.hid hR2; have B2 := Lib.hid (B1.out.trans hb2); clear hR2 hb2)
        go_roundg (gk - 1)
        case measure => omega
        case rel => exact ⟨i + 1, by go_num, by omega, Lib.hid (by rw [HNX.out]; exact R2.out), B2⟩
end Go.Proofs.YtlpibfafpljedaaGreatDoor
