/- impl.SendTables, walked. laws.lyTable, laws.lyTables at the same tables; spec.DrawSendTables; what every law on SendTables begins with. -/
import Derived.Test.YtlpibfafpljedaaGreatDoorSendP
import Derived.Test.YtlpibfafpljedaaGreatDoorNetE
import Derived.Test.YtlpibfafpljedaaGreatDoorHomsDraw
namespace Go.Proofs.YtlpibfafpljedaaGreatDoor
open Go.RowKit
set_option linter.unusedVariables false
set_option maxRecDepth 100000

theorem info_s1 : (Tryz.prog.info? 42).map (fun i => (i.zero, i.size, i.bytes)) = some (some (.slice none 0 0), 1, 24) := by kernel_rfl
theorem homesTo_zero (rs : List (List Int)) (n : Nat) (l : List Ent) : homesTo rs n l 0 = List.replicate n [] := by
  show (List.range n).map (fun _ => []) = _
  apply List.ext_getElem
  · simp
  · intro i h1 h2
    simp
theorem ent_off {w w' : World} {lo : Nat} {u : Value} {tb : List Ent} (hE : EntNew w lo u tb) (hg : w.grownBy w' u.ownBlock) {X : Nat} {cs : Array Value} {T : TypeId} (hT : T ≠ 45) (hX : w.heap[X]? = some (.cells cs T (0, 0))) : w'.heap[X]? = some (.cells cs T (0, 0)) :=
  (hg.block X (heap_lt hX) (by
    intro e
    obtain ⟨c2, hc2⟩ := owns_ent hE e.symm
    rw [hc2] at hX
    simp at hX
    exact hT hX.2.symm)).trans hX
theorem RowsL.setG {w : World} {lo g : Nat} {v : Value} {ll : List (List Int)} {cur : Array Value} (h : RowsL w lo v ll) (hc : w.heap[g]? = some (.cells cur 42 (0, 0))) (j : Nat) (u : Value) : RowsL (w.setCell ⟨g, j, none⟩ u) lo v ll := by
  obtain ⟨vs, h1, h2, h3⟩ := h
  have key : ∀ b (T : TypeId) c, T ≠ 42 → w.heap[b]? = some (Obj.cells c T (0, 0)) → (w.setCell ⟨g, j, none⟩ u).heap[b]? = w.heap[b]? := fun b T c hT hb =>
    Below.heap_setCell _ _ _ _ (by
      intro e
      have e : g = b := by simpa using e.symm
      subst e
      rw [hc] at hb
      simp at hb
      exact hT hb.2.symm)
  exact ⟨vs, h1, owns_blk h2 (fun b c _ hb => key b _ c (by decide) hb), fun i hi => owns_blk (h3 i hi) (fun b c _ hb => key b _ c (by decide) hb)⟩
def HomeB (w : World) (X : Nat) (f bt ho : Int) : Prop := w.heap[X]? = some (.cells #[.int .i64 f, .int .i64 bt, .int .i64 ho] 36 (0, 0))
theorem HomeB.cells {w : World} {X : Nat} {f bt ho : Int} (h : HomeB w X f bt ho) : w.cell? ⟨X, 0, none⟩ = some (.int .i64 f) ∧ w.cell? ⟨X, 1, none⟩ = some (.int .i64 bt) ∧ w.cell? ⟨X, 2, none⟩ = some (.int .i64 ho) := by
  have := fun j => cell_of_row w X j #[.int .i64 f, .int .i64 bt, .int .i64 ho] 36 (0, 0) h
  exact ⟨(this 0).trans rfl, (this 1).trans rfl, (this 2).trans rfl⟩
theorem HomeB.below {w w' : World} {X : Nat} {f bt ho : Int} (h : HomeB w X f bt ho) (hb : Below w.heap.size w w') : HomeB w' X f bt ho := (hb.block X (heap_lt h)).trans h
/-- one entry more in house h + 1's table: what holds behind the append and the store -/
theorem put_end {w wr w3 : World} {n G X h tl uc ad c3 : Nat} {ua : Option Addr} {f bt ho via : Int} {wv : Value} {ways : List (List Int)} {tt : List (List Ent)} {tb : List Ent}
    (O : TabsX wr w.heap.size (.slice (some ⟨G, 0, none⟩) n n) tt) (htt : tt.length = n) (hh : h < n) (hu : wr.cell? ⟨G, h, none⟩ = some (.slice ua tl uc)) (R : RowsL wr 0 wv ways) (XX : HomeB wr X f bt ho) (BB : Below w.heap.size w wr) (hGl : w.heap.size ≤ G) (hXG : X ≠ G) (U : EntNew wr w.heap.size (.slice ua tl uc) tb)
    (hE3 : EntNew w3 w.heap.size (.slice (some ⟨ad, 0, none⟩) (tb.length + 1) c3) (tb ++ [(f, bt, via)])) (hG3 : wr.drew.grownBy w3 (Value.slice ua tl uc).ownBlock) (hor : (Value.slice ua tl uc).ownBlock = some ad ∨ wr.drew.heap.size ≤ ad) :
    (w3.cell? ⟨X, 0, none⟩ = some (.int .i64 f) ∧ w3.cell? ⟨X, 1, none⟩ = some (.int .i64 bt)) ∧ (∃ q, w3.cell? ⟨G, h, none⟩ = some q ∧ w3.frozen? ⟨G, h, none⟩ = false) ∧
      TabsX (w3.setCell ⟨G, h, none⟩ (.slice (some ⟨ad, 0, none⟩) (tb.length + 1) c3)) w.heap.size (.slice (some ⟨G, 0, none⟩) n n) (tt.set h (tb ++ [(f, bt, via)])) ∧
      RowsL (w3.setCell ⟨G, h, none⟩ (.slice (some ⟨ad, 0, none⟩) (tb.length + 1) c3)) 0 wv ways ∧ HomeB (w3.setCell ⟨G, h, none⟩ (.slice (some ⟨ad, 0, none⟩) (tb.length + 1) c3)) X f bt ho ∧ Below w.heap.size w (w3.setCell ⟨G, h, none⟩ (.slice (some ⟨ad, 0, none⟩) (tb.length + 1) c3)) := by
  have hD : Below wr.heap.size wr wr.drew := Below.drew (Below.refl _ _)
  have U' := U.below hD
  have X3 : HomeB w3 X f bt ho := ent_off U' hG3 (by decide) (XX.below hD)
  obtain ⟨x0, x1, _⟩ := X3.cells
  obtain ⟨vs, o1, o2, o3, o4⟩ := O.below hD
  obtain ⟨cur, hc⟩ := owns_tabrow o2 rfl
  have hc3 : w3.heap[G]? = some (.cells cur 42 (0, 0)) := ent_off U' hG3 (by decide) hc
  have hcell : w3.cell? ⟨G, h, none⟩ = wr.cell? ⟨G, h, none⟩ := World.cell?_of_block (hc3.trans hc.symm)
  have hfz : w3.frozen? ⟨G, h, none⟩ = false := by
    obtain ⟨g, cap, q, e, _, _, _, h5, _⟩ := (O.below hD).get htt h hh
    simp only [Value.slice.injEq, Option.some.injEq, Addr.mk.injEq] at e
    obtain ⟨⟨rfl, _⟩, _⟩ := e
    exact (World.frozen?_of_block (a := ⟨G, h, none⟩) (hc3.trans hc.symm)).trans h5
  refine ⟨⟨x0, x1⟩, ⟨_, hcell.trans hu, hfz⟩, (O.below hD).put htt hh hu hG3 hE3 rfl hor, (((R.below hD).offEnt hG3 (fun g hg => owns_ent U' hg)).setG hc3 h _), (Below.heap_setCell _ _ _ _ hXG).trans X3, Below.setCell (Below.grown (BB.trans (hD.mono BB.size)) hG3 (by have := BB.size; exact this) (fun g hg => by obtain ⟨xs, q1, _⟩ := U; exact (World.ownsRow.lt q1 g hg).1)) hGl _⟩
set_option maxHeartbeats 16000000 in
theorem implSendTables_any (v hv : Value) (rs : List (List Int)) (l : List Ent) (n : Nat) (w : World) (hr : RowsAt w v rs) (hh : EntsAt w hv l) (hn : rs.length = n) (hE : ErrOk w) :
    Calls Tryz.prog 5 #[v, hv] w fun e w' => ∃ v', e = .returned v' ∧ TabsL w' w.heap.size v' (sendTabsF rs l n) ∧ Below w.heap.size w w' := by
  obtain ⟨ra, rc, rfl, hrc, hrm⟩ := hr.form
  obtain ⟨la, lc, rfl, hlc, hlm⟩ := hh.form
  have hok := implHomesOk_any _ _ rs l w hr hh
  rw [hn] at hr hrc hok ⊢
  obtain ⟨L, hL⟩ : ∃ L, l.length = L := ⟨_, rfl⟩
  rw [hL] at hh hlc hok ⊢
  obtain ⟨B, hB⟩ : ∃ B, homesOkF rs l = B := ⟨_, rfl⟩
  rw [hB] at hok
  have HOK := Lib.hid hok
  have HB := Lib.hid hB
  cases B
  · have hF : sendTabsF rs l n = [] := by unfold sendTabsF; rw [hB]; rfl
    rw [hF]
    clear hok hB hF hr hh hE hn hL
    go_enter Tryz.func5, Tryz.ntmps5
    go_wp2_with fail
    refine HOK.out.mono ?_
    rintro e w1 ⟨rfl, hb1⟩
    go_wp2_with fail
    go_ret
    exact ⟨_, rfl, ⟨[], rfl, ⟨rfl, .inl ⟨rfl, rfl⟩⟩, fun i hi => by simp at hi⟩, hb1⟩
  · have hF : sendTabsF rs l n = homesTo rs n l L := by unfold sendTabsF; rw [hB, if_pos rfl, hL]
    rw [hF]
    have hall := homesOk_all hB
    have hbd := rels_bounds hall.1
    rw [hn] at hbd
    obtain ⟨hn1, hn5⟩ := hbd
    have hL4 := hall.2.1
    rw [hL] at hL4
    obtain ⟨i0, hi, hz0, hz1, hz2⟩ := info_parts info_s1
    have hend : ∀ W (j : Nat), Below w.heap.size w W → j < n → Calls Tryz.prog 17 #[.slice ra n rc, .int .i64 ((j : Int) + 1)] W fun r w' => ∃ v', r = .returned v' ∧ RowsL w' W.heap.size v' (end31 rs ((j : Int) + 1) n) ∧ Below W.heap.size W w' := fun W j hb hj => netEnd_any _ rs n j W (hr.below hb) hall.1 hn hj (hE.below hb)
    have hho : ∀ c, c < L → 1 ≤ (l.getD c (0, 0, 0)).2.2 ∧ (l.getD c (0, 0, 0)).2.2 ≤ (n : Int) := fun c hc => by
      have := homes_house hB (by rw [hL]; exact hc : c < l.length)
      rw [hn] at this
      exact ⟨this.1, this.2.1⟩
    have hput : ∀ c h, c < L → h < n → putHome (end31 rs (l.getD c (0, 0, 0)).2.2 n) (l.getD c (0, 0, 0)) h ((homesTo rs n l c).getD h []) = impPut (end31 rs (l.getD c (0, 0, 0)).2.2 n) (l.getD c (0, 0, 0)) h ((homesTo rs n l c).getD h []) := fun c h hc hh => by
      have e1 := homesTo_tabF (rs := rs) (homes_rise hB) (fun i hi => hho i (by omega)) c (by omega) h hh
      rw [e1]
      exact putHome_imp hh (endTo31_far _) (fun he => endTo31_home he.symm hh _) (tabF_less (homes_rise hB) (by omega))
    have HEND := Lib.hid hend
    have HHO := Lib.hid hho
    have HPUT := Lib.hid hput
    have H := Lib.hid hh
    have HLN := Lib.hid (fun e : Int => (endTo31_ways (home := e) hn hn1 (4 * n * n)).len)
    have HSH := Lib.hid (fun c h (hc : c ≤ 4) (hh : h < n) => (show ((homesTo rs n l c).getD h []).length ≤ 4 by have := homesTo_short rs n l c h hh; omega))
    clear hok hB hF hr hh hE hn hL hall hend hho hput
    go_enter Tryz.func5, Tryz.ntmps5
    go_wp2_with fail
    refine HOK.out.mono ?_
    rintro e w1 ⟨rfl, hb1⟩
    have hs1 := hb1.size
    have B1 := Lib.hid hb1
    clear hb1
    go_wp2_with (at_make; refine wpList_make_full _ rfl (.tmp 16) (.tmp 16) 27 rfl w.heap.size 42 i0 (.slice none 0 0) 1 Tryz.underlying27 hi hz0 hz1 .i64 .i64 n n n rfl rfl rfl rfl (by rw [hz2]; omega) (by unfold maxLen; omega) hs1 ?_; intro w2 hown hgrow)
    have hb2 : Below w.heap.size w w2 := B1.out.grown hgrow hs1 (by intro k hk; cases hk)
    obtain ⟨G, hG⟩ : ∃ G, G = w1.heap.size := ⟨_, rfl⟩
    rw [← hG] at hown ⊢
    have O2 : Hid (TabsX w2 w.heap.size (.slice (some ⟨G, 0, none⟩) n n) (homesTo rs n l 0)) := Lib.hid (by rw [homesTo_zero]; exact made_tabs hown)
    have B2 := Lib.hid hb2
    have hGl : w.heap.size ≤ G := by omega
    clear hown hgrow hb2 hG hi hz0 hz1 hz2 HOK
    go_loopg [20] L (fun gk s20 wr => ∃ c : Nat, s20 = .int .i64 (c : Int) ∧ c + gk = L ∧ Hid (TabsX wr w.heap.size (.slice (some ⟨G, 0, none⟩) n n) (homesTo rs n l c)) ∧ Hid (Below w.heap.size w wr))
    case atStart => exact ⟨0, rfl, by omega, O2, B2⟩
    case round =>
      clear O2 B2
      obtain ⟨c, rfl, hc, O, BB⟩ := hrel
      by_cases hg : gk = 0
      · subst hg
        obtain rfl : c = L := by omega
        have hdn : decide ((c : Int) < (c : Int)) = false := by simp
        go_wp2_with fail
        go_ret
        exact ⟨_, rfl, O.out.tabs, BB.out⟩
      · have hcL : c < L := by omega
        have hcI : (c : Int) < (L : Int) := by omega
        have c0 : (0 : Int) ≤ (c : Int) := by omega
        have hgk : 1 ≤ gk := by omega
        have HC := Lib.hid hc
        obtain ⟨lb, loff, rfl, hlb, y0, y1, y2⟩ := (H.out.below BB.out).get c hcL
        obtain ⟨ent, hent⟩ : ∃ e, l.getD c (0, 0, 0) = e := ⟨_, rfl⟩
        have hho := HHO.out c hcL
        have hpt := fun h hh => HPUT.out c h hcL hh
        rw [hent] at y0 y1 y2 hho hpt
        obtain ⟨f, bt, ho⟩ := ent
        simp only at y0 y1 y2 hho hpt
        obtain ⟨jj, rfl⟩ : ∃ j : Nat, ho = (j : Int) + 1 := ⟨(ho - 1).toNat, by omega⟩
        have hjj : jj < n := by omega
        have hnx : homesTo rs n l (c + 1) = homeTo (end31 rs ((jj : Int) + 1) n) n (f, bt, (jj : Int) + 1) (homesTo rs n l c) n := by rw [homesTo_succ, hent]; rfl
        have hwl := HLN.out ((jj : Int) + 1)
        obtain ⟨tabs, htabs⟩ : ∃ t, homesTo rs n l c = t := ⟨_, rfl⟩
        have htl : tabs.length = n := by rw [← htabs]; exact homesTo_len _ _ _ _
        have hts : ∀ h, h < n → (tabs.getD h []).length ≤ 4 := fun h hh => by rw [← htabs]; exact HSH.out c h (by omega) hh
        rw [htabs] at O hnx hpt
        have hGw : G < wr.heap.size := by
          obtain ⟨g, _, _, e, _, hgl, _⟩ := O.out.get htl jj hjj
          simp only [Value.slice.injEq, Option.some.injEq, Addr.mk.injEq] at e
          obtain ⟨⟨rfl, _⟩, _⟩ := e
          exact hgl
        have hal := Below.alloc (Below.refl wr.heap.size wr) (Nat.le_refl _) (.cells #[.int .i64 f, .int .i64 bt, .int .i64 ((jj : Int) + 1)] 36)
        have hce := HEND.out (wr.alloc (.cells #[.int .i64 f, .int .i64 bt, .int .i64 ((jj : Int) + 1)] 36)) jj (BB.out.trans (hal.mono BB.out.size)) hjj
        have hwl' : (end31 rs ((jj : Int) + 1) n).length = n := hwl
        obtain ⟨ways, hways⟩ : ∃ t, end31 rs ((jj : Int) + 1) n = t := ⟨_, rfl⟩
        rw [hways] at hce hnx hpt hwl'
        have HCE := Lib.hid hce
        have HNX := Lib.hid hnx
        have HTS := Lib.hid hts
        have HPT := Lib.hid hpt
        have HEL := Lib.hid hwl'
        have HTL := Lib.hid htl
        have HAL := Lib.hid hal
        have OA := Lib.hid (O.out.below hal)
        obtain ⟨GG, hGG⟩ : ∃ G, G = gk := ⟨_, rfl⟩
        obtain ⟨wq, hwq⟩ : ∃ W, W = wr := ⟨_, rfl⟩
        subst hwq
        clear hc hg hent hho hpt hnx hwl hwl' htabs htl hts hal hce hways O
        go_wp2_with fail
        refine HCE.out.mono ?_
        rintro e w2 ⟨wv, rfl, hR2, hb2⟩
        have hsA : (wq.alloc (.cells #[.int .i64 f, .int .i64 bt, .int .i64 ((jj : Int) + 1)] 36)).heap.size = wq.heap.size + 1 := World.size_alloc _ _
        have hb2s := hb2.size
        have x0 : w2.cell? ⟨wq.heap.size, 0, none⟩ = some (.int .i64 f) := (hb2.cell (p := ⟨wq.heap.size, 0, none⟩) (by simp)).trans (by simp)
        have x1 : w2.cell? ⟨wq.heap.size, 1, none⟩ = some (.int .i64 bt) := (hb2.cell (p := ⟨wq.heap.size, 1, none⟩) (by simp)).trans (by simp)
        have x2 : w2.cell? ⟨wq.heap.size, 2, none⟩ = some (.int .i64 ((jj : Int) + 1)) := (hb2.cell (p := ⟨wq.heap.size, 2, none⟩) (by simp)).trans (by simp)
        have B2 : Hid (Below w.heap.size w w2) := Lib.hid (BB.out.trans ((HAL.out.trans (hb2.mono (by omega))).mono BB.out.size))
        have T2 : Hid (TabsX w2 w.heap.size (.slice (some ⟨G, 0, none⟩) n n) (homeTo ways n (f, bt, (jj : Int) + 1) tabs 0)) := Lib.hid (by rw [homeTo_zero HTL.out]; exact OA.out.below hb2)
        have R2 := Lib.hid (hR2.lift (Nat.zero_le _))
        have hXG : wq.heap.size ≠ G := by omega
        have X2 : Hid (HomeB w2 wq.heap.size f bt ((jj : Int) + 1)) := Lib.hid ((hb2.block wq.heap.size (by omega)).trans (heap_alloc_new wq _))
        obtain ⟨wva, wvc, e, hwvc, hwvm⟩ := hR2.form
        subst e
        rw [HEL.out] at R2 hwvc ⊢
        clear hR2 hb2 x0 x1 x2 HCE hsA hb2s OA
        go_wp2_with fail
        go_loopg [29] n (fun gk s29 wr => ∃ h : Nat, s29 = .int .i64 (h : Int) ∧ h + gk = n ∧ Hid (TabsX wr w.heap.size (.slice (some ⟨G, 0, none⟩) n n) (homeTo ways n (f, bt, (jj : Int) + 1) tabs h)) ∧ Hid (RowsL wr 0 (.slice wva n wvc) ways) ∧ Hid (HomeB wr wq.heap.size f bt ((jj : Int) + 1)) ∧ Hid (Below w.heap.size w wr))
        case atStart => exact ⟨0, rfl, by omega, T2, R2, X2, B2⟩
        case round =>
          clear T2 R2 X2 B2
          obtain ⟨h, rfl, hh, O, R, XX, BB2⟩ := hrel
          by_cases hg : gk = 0
          · subst hg
            obtain rfl : h = n := by omega
            have hdn : decide ((h : Int) < (h : Int)) = false := by simp
            go_wp2_with fail
            go_roundg (GG - 1)
            case measure => omega
            case rel => exact ⟨c + 1, by go_num, by have := HC.out; omega, Lib.hid (by rw [HNX.out]; exact O.out), BB2⟩
          · have hin : h < n := by omega
            have hiI : (h : Int) < (n : Int) := by omega
            have h0 : (0 : Int) ≤ (h : Int) := by omega
            have hgk2 : 1 ≤ gk := by omega
            have HH := Lib.hid hh
            obtain ⟨g, cap', u, e, hgl, hgs, z0, z1, hu⟩ := O.out.get (homeTo_len _ _ _ _ _) h hin
            simp only [Value.slice.injEq, Option.some.injEq, Addr.mk.injEq] at e
            obtain ⟨⟨rfl, _⟩, _, rfl⟩ := e
            have htb : (homeTo ways n (f, bt, (jj : Int) + 1) tabs h).getD h [] = tabs.getD h [] := by rw [homeTo_get hin, if_neg (by omega)]
            have hpt := HPT.out h hin
            unfold impPut at hpt
            rw [htb] at hu
            obtain ⟨tb, htb2⟩ : ∃ t, tabs.getD h [] = t := ⟨_, rfl⟩
            have htl := HTS.out h hin
            rw [htb2] at hu hpt htl
            obtain ⟨wb, woff, wu, rfl, hwb, q0, hz⟩ := R.out.rows.get h hin
            obtain ⟨wa1, wc1, e, hwc1, hwm1⟩ := hz.form
            subst e
            obtain ⟨way, hway⟩ : ∃ p, ways.getD h [] = p := ⟨_, rfl⟩
            rw [hway] at hz q0 hwc1 hpt
            obtain ⟨m, hm⟩ : ∃ m, way.length = m := ⟨_, rfl⟩
            rw [hm] at hz q0 hwc1
            obtain ⟨x0, x1, x2⟩ := XX.out.cells
            have HU := Lib.hid hu
            obtain ⟨ua, uc, e, huc, hum⟩ := hu.form
            subst e
            obtain ⟨tl, htlen⟩ : ∃ t, tb.length = t := ⟨_, rfl⟩
            rw [htlen] at z0 htl HU
            have HPU := Lib.hid hpt
            have HM := Lib.hid hm
            have HTB := Lib.hid htb2
            have HWZ := Lib.hid hz
            have HTLL := Lib.hid htlen
            clear hpt htb hu htb2 hm hway hh hg hz htlen huc hum
            by_cases hm0 : m = 0
            · subst hm0
              have hwe : way = [] := List.length_eq_zero_iff.1 HM.out
              have hpu : Hid (putHome ways (f, bt, (jj : Int) + 1) h (tabs.getD h []) = tabs.getD h []) := Lib.hid (by rw [HTB.out, HPU.out, if_pos hwe])
              go_wp2_with fail
              go_roundg (gk - 1)
              case measure => omega
              case rel => exact ⟨h + 1, by go_num, by have := HH.out; omega, Lib.hid (by rw [homeTo_same hin hpu.out]; exact O.out), R, XX, BB2⟩
            · have hmb : ((m : Int) == 0) = false := by simp [hm0]
              have hwne : way ≠ [] := by intro e; apply hm0; rw [← HM.out, e]; rfl
              have hpu : Hid (putHome ways (f, bt, (jj : Int) + 1) h (tabs.getD h []) = tb ++ [(f, bt, if 1 < m then way.getD 1 0 else (jj : Int) + 1)]) := Lib.hid (by rw [HTB.out, HPU.out, if_neg hwne]; unfold viaF; rw [HM.out])
              have UU : EntNew wr w.heap.size (.slice ua tl uc) tb := HU.out
              by_cases h1 : 1 < m
              · have h1I : (1 : Int) < (m : Int) := by omega
                obtain ⟨b2, off2, rfl, hb2, hy⟩ := HWZ.out.get 1 h1
                obtain ⟨via, hvia⟩ : ∃ o, way.getD 1 0 = o := ⟨_, rfl⟩
                rw [if_pos h1, hvia] at hpu
                rw [hvia] at hy
                clear hvia hwne
                go_wp2_with fail
                refine wp_region_noPanic ?_
                refine wp_region_held_drew (S := (fun W => W.cell? ⟨wq.heap.size, 0, none⟩ = some (.int .i64 f) ∧ W.cell? ⟨wq.heap.size, 1, none⟩ = some (.int .i64 bt))) (by kernel_rfl) (by exact ⟨x0, x1⟩) (fun hHeld => ?_)
                refine wpAnyH_take (i := 0) (v := _) (by (simp only [List.getElem?_toArray, List.getElem?_cons_zero]) <;> rfl) (by kernel_rfl) (by kernel_rfl) (by kernel_rfl) (fun _ _ _ h => h) (Or.inl ⟨by rfl, fun w hSw => by ((try dsimp only at hSw); go_simp) <;> with_reducible rfl⟩) (by assumption) ?_
                (try simp only [Act.put, List.setIfInBounds_toArray, List.set_cons_zero, List.set_cons_succ])
                refine wpAnyH_take (i := 1) (v := _) (by (simp only [List.getElem?_toArray, List.getElem?_cons_succ, List.getElem?_cons_zero]) <;> rfl) (by kernel_rfl) (by kernel_rfl) (by kernel_rfl) (fun _ _ _ h => h) (Or.inl ⟨by rfl, fun w hSw => by ((try dsimp only at hSw); go_simp) <;> with_reducible rfl⟩) (by assumption) ?_
                (try simp only [Act.put, List.setIfInBounds_toArray, List.set_cons_zero, List.set_cons_succ])
                refine wpAnyH_take (i := 2) (v := _) (by (simp only [List.getElem?_toArray, List.getElem?_cons_succ, List.getElem?_cons_zero]) <;> rfl) (by kernel_rfl) (by kernel_rfl) (by kernel_rfl) (fun _ _ _ h => h) (Or.inl ⟨by rfl, fun w hSw => by ((try dsimp only at hSw); go_simp) <;> with_reducible rfl⟩) (by assumption) ?_
                (try simp only [Act.put, List.setIfInBounds_toArray, List.set_cons_zero, List.set_cons_succ])
                refine wpAnyH_take (i := 3) (v := _) (by (simp only [List.getElem?_toArray, List.getElem?_cons_succ, List.getElem?_cons_zero]) <;> rfl) (by kernel_rfl) (by kernel_rfl) (by kernel_rfl) (fun _ _ _ h => h) (Or.inl ⟨by rfl, fun w hSw => by ((try dsimp only at hSw); go_simp) <;> with_reducible rfl⟩) (by assumption) ?_
                (try simp only [Act.put, List.setIfInBounds_toArray, List.set_cons_zero, List.set_cons_succ])
                refine wpAnyH_take (i := 4) (v := _) (by (simp only [List.getElem?_toArray, List.getElem?_cons_succ, List.getElem?_cons_zero]) <;> rfl) (by kernel_rfl) (by kernel_rfl) (by kernel_rfl) (fun _ _ _ h => h) (Or.inl ⟨by rfl, fun w hSw => by ((try dsimp only at hSw); go_simp) <;> with_reducible rfl⟩) (by assumption) ?_
                (try simp only [Act.put, List.setIfInBounds_toArray, List.set_cons_zero, List.set_cons_succ])
                refine wpAnyH_take (i := 6) (v := _) (by (simp only [List.getElem?_toArray, List.getElem?_cons_succ, List.getElem?_cons_zero]) <;> rfl) (by kernel_rfl) (by kernel_rfl) (by kernel_rfl) (fun _ _ _ h => h) (Or.inl ⟨by rfl, fun w hSw => by ((try dsimp only at hSw); go_simp) <;> with_reducible rfl⟩) (by assumption) ?_
                (try simp only [Act.put, List.setIfInBounds_toArray, List.set_cons_zero, List.set_cons_succ])
                refine wpAnyH_take (i := 7) (v := _) (by (simp only [List.getElem?_toArray, List.getElem?_cons_succ, List.getElem?_cons_zero]) <;> rfl) (by kernel_rfl) (by kernel_rfl) (by kernel_rfl) (fun _ _ _ h => h) (Or.inl ⟨by rfl, fun w hSw => by ((try dsimp only at hSw); go_simp) <;> with_reducible rfl⟩) (by assumption) ?_
                (try simp only [Act.put, List.setIfInBounds_toArray, List.set_cons_zero, List.set_cons_succ])
                refine wpAnyH_take (i := 8) (v := _) (by (simp only [List.getElem?_toArray, List.getElem?_cons_succ, List.getElem?_cons_zero]) <;> rfl) (by kernel_rfl) (by kernel_rfl) (by kernel_rfl) (fun _ _ _ h => h) (Or.inl ⟨by rfl, fun w hSw => by ((try dsimp only at hSw); go_simp) <;> with_reducible rfl⟩) (by assumption) ?_
                (try simp only [Act.put, List.setIfInBounds_toArray, List.set_cons_zero, List.set_cons_succ])
                refine wpAnyH_take (i := 9) (v := _) (by (simp only [List.getElem?_toArray, List.getElem?_cons_succ, List.getElem?_cons_zero]) <;> rfl) (by kernel_rfl) (by kernel_rfl) (by kernel_rfl) (fun _ _ _ h => h) (Or.inl ⟨by rfl, fun w hSw => by ((try dsimp only at hSw); go_simp) <;> with_reducible rfl⟩) (by assumption) ?_
                (try simp only [Act.put, List.setIfInBounds_toArray, List.set_cons_zero, List.set_cons_succ])
                refine wpAnyH_ready (rs := [5, 10]) (by kernel_rfl) (by simp) ?_
                refine AllReadyH.cons (by (simp only [List.getElem?_toArray, List.getElem?_cons_succ, List.getElem?_cons_zero]) <;> rfl) (fun K hK => ?_) (AllReadyH.cons (by (simp only [List.getElem?_toArray, List.getElem?_cons_succ, List.getElem?_cons_zero]) <;> rfl) (fun K hK => ?_) AllReadyH.nil)
                · go_simp
                  refine hK.out _ _ (by exact ⟨x0, x1⟩) (fun hHeld => ?_)
                  (try simp only [Act.put, List.setIfInBounds_toArray, List.set_cons_zero, List.set_cons_succ])
                  refine wpAnyH_ready (rs := [10]) (by kernel_rfl) (by simp) ?_
                  refine AllReadyH.cons (by (simp only [List.getElem?_toArray, List.getElem?_cons_succ, List.getElem?_cons_zero]) <;> rfl) (fun K hK => ?_) AllReadyH.nil
                  go_simp
                  skip
                  refine hK.out _ _ (by exact ⟨(World.cell?_alloc_past _ _ _ (by show wq.heap.size < wr.heap.size; exact heap_lt XX.out)).trans x0, (World.cell?_alloc_past _ _ _ (by show wq.heap.size < wr.heap.size; exact heap_lt XX.out)).trans x1⟩) (fun hHeld => ?_)
                  (try simp only [Act.put, List.setIfInBounds_toArray, List.set_cons_zero, List.set_cons_succ])
                  refine wpAnyH_ready (rs := [11]) (by kernel_rfl) (by simp) ?_
                  refine AllReadyH.cons (by (simp only [List.getElem?_toArray, List.getElem?_cons_succ, List.getElem?_cons_zero]) <;> rfl) (fun K hK => ?_) AllReadyH.nil
                  (refine step_append_entD (W := wr.drew) rfl (.tmp 52) (.tmp 57) rfl w.heap.size (.slice ua tl uc) tb (f, bt, via) rfl (UU.below (Below.drew (Below.refl _ _))) rfl (by rw [HTLL.out]; omega) BB2.out.size ?_; intro ad c3 w3 hE3 hG3 hor3; obtain ⟨⟨y0, y1⟩, ⟨yq, g0, g1⟩, hT3, hR3, hX3, hB3⟩ := put_end O.out (homeTo_len _ _ _ _ _) hin z0 R.out XX.out BB2.out hGl hXG UU hE3 hG3 hor3; have T3 := Lib.hid hT3; have R3 := Lib.hid hR3; have X3 := Lib.hid hX3; have B3 := Lib.hid hB3; have HE3 := Lib.hid hE3; clear hT3 hR3 hX3 hB3 hG3 hor3 hE3)
                  refine hK.out _ _ (by exact ⟨y0, y1⟩) (fun hHeld => ?_)
                  (try simp only [Act.put, List.setIfInBounds_toArray, List.set_cons_zero, List.set_cons_succ])
                  refine wpAnyH_take (i := 12) (v := _) (by (simp only [List.getElem?_toArray, List.getElem?_cons_succ, List.getElem?_cons_zero]) <;> rfl) (by kernel_rfl) (by kernel_rfl) (by kernel_rfl) (fun _ _ _ h => h) (Or.inl ⟨by rfl, fun w hSw => by ((try dsimp only at hSw); go_simp) <;> with_reducible rfl⟩) (by assumption) ?_
                  (try simp only [Act.put, List.setIfInBounds_toArray, List.set_cons_zero, List.set_cons_succ])
                  refine wpAnyH_ready (rs := [13]) (by kernel_rfl) (by simp) ?_
                  refine AllReadyH.cons (by (simp only [List.getElem?_toArray, List.getElem?_cons_succ, List.getElem?_cons_zero]) <;> rfl) (fun K hK => ?_) AllReadyH.nil
                  go_simp
                  skip
                  refine hK.out _ _ (by exact (X3.out.cells.imp id And.left)) (fun hHeld => ?_)
                  (try simp only [Act.put, List.setIfInBounds_toArray, List.set_cons_zero, List.set_cons_succ])
                  refine wpAnyH_done (by kernel_rfl) ?_ _
                  refine NoPanic.normal ?_
                  go_wp2_with fail
                  go_roundg (gk - 1)
                  case measure => omega
                  case rel => exact ⟨h + 1, by go_num, by have := HH.out; omega, Lib.hid (by have := T3.out; rw [← hpu.out, homeTo_set hin] at this; exact this), R3, X3, B3⟩
                · go_simp
                  refine hK.out _ _ (by exact ⟨(World.cell?_alloc_past _ _ _ (by show wq.heap.size < wr.heap.size; exact heap_lt XX.out)).trans x0, (World.cell?_alloc_past _ _ _ (by show wq.heap.size < wr.heap.size; exact heap_lt XX.out)).trans x1⟩) (fun hHeld => ?_)
                  (try simp only [Act.put, List.setIfInBounds_toArray, List.set_cons_zero, List.set_cons_succ])
                  have zA : (wr.alloc (.cells #[.int .i64 f, .int .i64 bt, .int .i64 via] 45)).cell? ⟨G, h, none⟩ = some (.slice ua tl uc) := (World.cell?_alloc_past _ _ _ hgs).trans z0
                  refine wpAnyH_ready (rs := [5]) (by kernel_rfl) (by simp) ?_
                  refine AllReadyH.cons (by (simp only [List.getElem?_toArray, List.getElem?_cons_succ, List.getElem?_cons_zero]) <;> rfl) (fun K hK => ?_) AllReadyH.nil
                  go_simp
                  skip
                  refine hK.out _ _ (by exact ⟨(World.cell?_alloc_past _ _ _ (by show wq.heap.size < wr.heap.size; exact heap_lt XX.out)).trans x0, (World.cell?_alloc_past _ _ _ (by show wq.heap.size < wr.heap.size; exact heap_lt XX.out)).trans x1⟩) (fun hHeld => ?_)
                  (try simp only [Act.put, List.setIfInBounds_toArray, List.set_cons_zero, List.set_cons_succ])
                  refine wpAnyH_ready (rs := [11]) (by kernel_rfl) (by simp) ?_
                  refine AllReadyH.cons (by (simp only [List.getElem?_toArray, List.getElem?_cons_succ, List.getElem?_cons_zero]) <;> rfl) (fun K hK => ?_) AllReadyH.nil
                  (refine step_append_entD (W := wr.drew) rfl (.tmp 52) (.tmp 57) rfl w.heap.size (.slice ua tl uc) tb (f, bt, via) rfl (UU.below (Below.drew (Below.refl _ _))) rfl (by rw [HTLL.out]; omega) BB2.out.size ?_; intro ad c3 w3 hE3 hG3 hor3; obtain ⟨⟨y0, y1⟩, ⟨yq, g0, g1⟩, hT3, hR3, hX3, hB3⟩ := put_end O.out (homeTo_len _ _ _ _ _) hin z0 R.out XX.out BB2.out hGl hXG UU hE3 hG3 hor3; have T3 := Lib.hid hT3; have R3 := Lib.hid hR3; have X3 := Lib.hid hX3; have B3 := Lib.hid hB3; have HE3 := Lib.hid hE3; clear hT3 hR3 hX3 hB3 hG3 hor3 hE3)
                  refine hK.out _ _ (by exact ⟨y0, y1⟩) (fun hHeld => ?_)
                  (try simp only [Act.put, List.setIfInBounds_toArray, List.set_cons_zero, List.set_cons_succ])
                  refine wpAnyH_take (i := 12) (v := _) (by (simp only [List.getElem?_toArray, List.getElem?_cons_succ, List.getElem?_cons_zero]) <;> rfl) (by kernel_rfl) (by kernel_rfl) (by kernel_rfl) (fun _ _ _ h => h) (Or.inl ⟨by rfl, fun w hSw => by ((try dsimp only at hSw); go_simp) <;> with_reducible rfl⟩) (by assumption) ?_
                  (try simp only [Act.put, List.setIfInBounds_toArray, List.set_cons_zero, List.set_cons_succ])
                  refine wpAnyH_ready (rs := [13]) (by kernel_rfl) (by simp) ?_
                  refine AllReadyH.cons (by (simp only [List.getElem?_toArray, List.getElem?_cons_succ, List.getElem?_cons_zero]) <;> rfl) (fun K hK => ?_) AllReadyH.nil
                  go_simp
                  skip
                  refine hK.out _ _ (by exact (X3.out.cells.imp id And.left)) (fun hHeld => ?_)
                  (try simp only [Act.put, List.setIfInBounds_toArray, List.set_cons_zero, List.set_cons_succ])
                  refine wpAnyH_done (by kernel_rfl) ?_ _
                  refine NoPanic.normal ?_
                  go_wp2_with fail
                  go_roundg (gk - 1)
                  case measure => omega
                  case rel => exact ⟨h + 1, by go_num, by have := HH.out; omega, Lib.hid (by have := T3.out; rw [← hpu.out, homeTo_set hin] at this; exact this), R3, X3, B3⟩
              · have h1I : ¬ (1 : Int) < (m : Int) := by omega
                have h1d : decide ((1 : Int) < (m : Int)) = false := decide_eq_false h1I
                rw [if_neg h1] at hpu
                clear hwne
                go_wp2_with fail
                refine wp_region_noPanic ?_
                refine wp_region_held_drew (S := (fun W => W.cell? ⟨wq.heap.size, 0, none⟩ = some (.int .i64 f) ∧ W.cell? ⟨wq.heap.size, 1, none⟩ = some (.int .i64 bt))) (by kernel_rfl) (by exact ⟨x0, x1⟩) (fun hHeld => ?_)
                refine wpAnyH_take (i := 0) (v := _) (by (simp only [List.getElem?_toArray, List.getElem?_cons_zero]) <;> rfl) (by kernel_rfl) (by kernel_rfl) (by kernel_rfl) (fun _ _ _ h => h) (Or.inl ⟨by rfl, fun w hSw => by ((try dsimp only at hSw); go_simp) <;> with_reducible rfl⟩) (by assumption) ?_
                (try simp only [Act.put, List.setIfInBounds_toArray, List.set_cons_zero, List.set_cons_succ])
                refine wpAnyH_take (i := 1) (v := _) (by (simp only [List.getElem?_toArray, List.getElem?_cons_succ, List.getElem?_cons_zero]) <;> rfl) (by kernel_rfl) (by kernel_rfl) (by kernel_rfl) (fun _ _ _ h => h) (Or.inl ⟨by rfl, fun w hSw => by ((try dsimp only at hSw); go_simp) <;> with_reducible rfl⟩) (by assumption) ?_
                (try simp only [Act.put, List.setIfInBounds_toArray, List.set_cons_zero, List.set_cons_succ])
                refine wpAnyH_take (i := 2) (v := _) (by (simp only [List.getElem?_toArray, List.getElem?_cons_succ, List.getElem?_cons_zero]) <;> rfl) (by kernel_rfl) (by kernel_rfl) (by kernel_rfl) (fun _ _ _ h => h) (Or.inl ⟨by rfl, fun w hSw => by ((try dsimp only at hSw); go_simp) <;> with_reducible rfl⟩) (by assumption) ?_
                (try simp only [Act.put, List.setIfInBounds_toArray, List.set_cons_zero, List.set_cons_succ])
                refine wpAnyH_take (i := 3) (v := _) (by (simp only [List.getElem?_toArray, List.getElem?_cons_succ, List.getElem?_cons_zero]) <;> rfl) (by kernel_rfl) (by kernel_rfl) (by kernel_rfl) (fun _ _ _ h => h) (Or.inl ⟨by rfl, fun w hSw => by ((try dsimp only at hSw); go_simp) <;> with_reducible rfl⟩) (by assumption) ?_
                (try simp only [Act.put, List.setIfInBounds_toArray, List.set_cons_zero, List.set_cons_succ])
                refine wpAnyH_take (i := 4) (v := _) (by (simp only [List.getElem?_toArray, List.getElem?_cons_succ, List.getElem?_cons_zero]) <;> rfl) (by kernel_rfl) (by kernel_rfl) (by kernel_rfl) (fun _ _ _ h => h) (Or.inl ⟨by rfl, fun w hSw => by ((try dsimp only at hSw); go_simp) <;> with_reducible rfl⟩) (by assumption) ?_
                (try simp only [Act.put, List.setIfInBounds_toArray, List.set_cons_zero, List.set_cons_succ])
                refine wpAnyH_take (i := 6) (v := _) (by (simp only [List.getElem?_toArray, List.getElem?_cons_succ, List.getElem?_cons_zero]) <;> rfl) (by kernel_rfl) (by kernel_rfl) (by kernel_rfl) (fun _ _ _ h => h) (Or.inl ⟨by rfl, fun w hSw => by ((try dsimp only at hSw); go_simp) <;> with_reducible rfl⟩) (by assumption) ?_
                (try simp only [Act.put, List.setIfInBounds_toArray, List.set_cons_zero, List.set_cons_succ])
                refine wpAnyH_take (i := 7) (v := _) (by (simp only [List.getElem?_toArray, List.getElem?_cons_succ, List.getElem?_cons_zero]) <;> rfl) (by kernel_rfl) (by kernel_rfl) (by kernel_rfl) (fun _ _ _ h => h) (Or.inl ⟨by rfl, fun w hSw => by ((try dsimp only at hSw); go_simp) <;> with_reducible rfl⟩) (by assumption) ?_
                (try simp only [Act.put, List.setIfInBounds_toArray, List.set_cons_zero, List.set_cons_succ])
                refine wpAnyH_take (i := 8) (v := _) (by (simp only [List.getElem?_toArray, List.getElem?_cons_succ, List.getElem?_cons_zero]) <;> rfl) (by kernel_rfl) (by kernel_rfl) (by kernel_rfl) (fun _ _ _ h => h) (Or.inl ⟨by rfl, fun w hSw => by ((try dsimp only at hSw); go_simp) <;> with_reducible rfl⟩) (by assumption) ?_
                (try simp only [Act.put, List.setIfInBounds_toArray, List.set_cons_zero, List.set_cons_succ])
                refine wpAnyH_take (i := 9) (v := _) (by (simp only [List.getElem?_toArray, List.getElem?_cons_succ, List.getElem?_cons_zero]) <;> rfl) (by kernel_rfl) (by kernel_rfl) (by kernel_rfl) (fun _ _ _ h => h) (Or.inl ⟨by rfl, fun w hSw => by ((try dsimp only at hSw); go_simp) <;> with_reducible rfl⟩) (by assumption) ?_
                (try simp only [Act.put, List.setIfInBounds_toArray, List.set_cons_zero, List.set_cons_succ])
                refine wpAnyH_ready (rs := [5, 10]) (by kernel_rfl) (by simp) ?_
                refine AllReadyH.cons (by (simp only [List.getElem?_toArray, List.getElem?_cons_succ, List.getElem?_cons_zero]) <;> rfl) (fun K hK => ?_) (AllReadyH.cons (by (simp only [List.getElem?_toArray, List.getElem?_cons_succ, List.getElem?_cons_zero]) <;> rfl) (fun K hK => ?_) AllReadyH.nil)
                · go_simp
                  refine hK.out _ _ (by exact ⟨x0, x1⟩) (fun hHeld => ?_)
                  (try simp only [Act.put, List.setIfInBounds_toArray, List.set_cons_zero, List.set_cons_succ])
                  refine wpAnyH_ready (rs := [10]) (by kernel_rfl) (by simp) ?_
                  refine AllReadyH.cons (by (simp only [List.getElem?_toArray, List.getElem?_cons_succ, List.getElem?_cons_zero]) <;> rfl) (fun K hK => ?_) AllReadyH.nil
                  go_simp
                  skip
                  refine hK.out _ _ (by exact ⟨(World.cell?_alloc_past _ _ _ (by show wq.heap.size < wr.heap.size; exact heap_lt XX.out)).trans x0, (World.cell?_alloc_past _ _ _ (by show wq.heap.size < wr.heap.size; exact heap_lt XX.out)).trans x1⟩) (fun hHeld => ?_)
                  (try simp only [Act.put, List.setIfInBounds_toArray, List.set_cons_zero, List.set_cons_succ])
                  refine wpAnyH_ready (rs := [11]) (by kernel_rfl) (by simp) ?_
                  refine AllReadyH.cons (by (simp only [List.getElem?_toArray, List.getElem?_cons_succ, List.getElem?_cons_zero]) <;> rfl) (fun K hK => ?_) AllReadyH.nil
                  (refine step_append_entD (W := wr.drew) rfl (.tmp 52) (.tmp 57) rfl w.heap.size (.slice ua tl uc) tb (f, bt, ((jj : Int) + 1)) rfl (UU.below (Below.drew (Below.refl _ _))) rfl (by rw [HTLL.out]; omega) BB2.out.size ?_; intro ad c3 w3 hE3 hG3 hor3; obtain ⟨⟨y0, y1⟩, ⟨yq, g0, g1⟩, hT3, hR3, hX3, hB3⟩ := put_end O.out (homeTo_len _ _ _ _ _) hin z0 R.out XX.out BB2.out hGl hXG UU hE3 hG3 hor3; have T3 := Lib.hid hT3; have R3 := Lib.hid hR3; have X3 := Lib.hid hX3; have B3 := Lib.hid hB3; have HE3 := Lib.hid hE3; clear hT3 hR3 hX3 hB3 hG3 hor3 hE3)
                  refine hK.out _ _ (by exact ⟨y0, y1⟩) (fun hHeld => ?_)
                  (try simp only [Act.put, List.setIfInBounds_toArray, List.set_cons_zero, List.set_cons_succ])
                  refine wpAnyH_take (i := 12) (v := _) (by (simp only [List.getElem?_toArray, List.getElem?_cons_succ, List.getElem?_cons_zero]) <;> rfl) (by kernel_rfl) (by kernel_rfl) (by kernel_rfl) (fun _ _ _ h => h) (Or.inl ⟨by rfl, fun w hSw => by ((try dsimp only at hSw); go_simp) <;> with_reducible rfl⟩) (by assumption) ?_
                  (try simp only [Act.put, List.setIfInBounds_toArray, List.set_cons_zero, List.set_cons_succ])
                  refine wpAnyH_ready (rs := [13]) (by kernel_rfl) (by simp) ?_
                  refine AllReadyH.cons (by (simp only [List.getElem?_toArray, List.getElem?_cons_succ, List.getElem?_cons_zero]) <;> rfl) (fun K hK => ?_) AllReadyH.nil
                  go_simp
                  skip
                  refine hK.out _ _ (by exact (X3.out.cells.imp id And.left)) (fun hHeld => ?_)
                  (try simp only [Act.put, List.setIfInBounds_toArray, List.set_cons_zero, List.set_cons_succ])
                  refine wpAnyH_done (by kernel_rfl) ?_ _
                  refine NoPanic.normal ?_
                  go_wp2_with fail
                  go_roundg (gk - 1)
                  case measure => omega
                  case rel => exact ⟨h + 1, by go_num, by have := HH.out; omega, Lib.hid (by have := T3.out; rw [← hpu.out, homeTo_set hin] at this; exact this), R3, X3, B3⟩
                · go_simp
                  refine hK.out _ _ (by exact ⟨(World.cell?_alloc_past _ _ _ (by show wq.heap.size < wr.heap.size; exact heap_lt XX.out)).trans x0, (World.cell?_alloc_past _ _ _ (by show wq.heap.size < wr.heap.size; exact heap_lt XX.out)).trans x1⟩) (fun hHeld => ?_)
                  (try simp only [Act.put, List.setIfInBounds_toArray, List.set_cons_zero, List.set_cons_succ])
                  have zA : (wr.alloc (.cells #[.int .i64 f, .int .i64 bt, .int .i64 ((jj : Int) + 1)] 45)).cell? ⟨G, h, none⟩ = some (.slice ua tl uc) := (World.cell?_alloc_past _ _ _ hgs).trans z0
                  refine wpAnyH_ready (rs := [5]) (by kernel_rfl) (by simp) ?_
                  refine AllReadyH.cons (by (simp only [List.getElem?_toArray, List.getElem?_cons_succ, List.getElem?_cons_zero]) <;> rfl) (fun K hK => ?_) AllReadyH.nil
                  go_simp
                  skip
                  refine hK.out _ _ (by exact ⟨(World.cell?_alloc_past _ _ _ (by show wq.heap.size < wr.heap.size; exact heap_lt XX.out)).trans x0, (World.cell?_alloc_past _ _ _ (by show wq.heap.size < wr.heap.size; exact heap_lt XX.out)).trans x1⟩) (fun hHeld => ?_)
                  (try simp only [Act.put, List.setIfInBounds_toArray, List.set_cons_zero, List.set_cons_succ])
                  refine wpAnyH_ready (rs := [11]) (by kernel_rfl) (by simp) ?_
                  refine AllReadyH.cons (by (simp only [List.getElem?_toArray, List.getElem?_cons_succ, List.getElem?_cons_zero]) <;> rfl) (fun K hK => ?_) AllReadyH.nil
                  (refine step_append_entD (W := wr.drew) rfl (.tmp 52) (.tmp 57) rfl w.heap.size (.slice ua tl uc) tb (f, bt, ((jj : Int) + 1)) rfl (UU.below (Below.drew (Below.refl _ _))) rfl (by rw [HTLL.out]; omega) BB2.out.size ?_; intro ad c3 w3 hE3 hG3 hor3; obtain ⟨⟨y0, y1⟩, ⟨yq, g0, g1⟩, hT3, hR3, hX3, hB3⟩ := put_end O.out (homeTo_len _ _ _ _ _) hin z0 R.out XX.out BB2.out hGl hXG UU hE3 hG3 hor3; have T3 := Lib.hid hT3; have R3 := Lib.hid hR3; have X3 := Lib.hid hX3; have B3 := Lib.hid hB3; have HE3 := Lib.hid hE3; clear hT3 hR3 hX3 hB3 hG3 hor3 hE3)
                  refine hK.out _ _ (by exact ⟨y0, y1⟩) (fun hHeld => ?_)
                  (try simp only [Act.put, List.setIfInBounds_toArray, List.set_cons_zero, List.set_cons_succ])
                  refine wpAnyH_take (i := 12) (v := _) (by (simp only [List.getElem?_toArray, List.getElem?_cons_succ, List.getElem?_cons_zero]) <;> rfl) (by kernel_rfl) (by kernel_rfl) (by kernel_rfl) (fun _ _ _ h => h) (Or.inl ⟨by rfl, fun w hSw => by ((try dsimp only at hSw); go_simp) <;> with_reducible rfl⟩) (by assumption) ?_
                  (try simp only [Act.put, List.setIfInBounds_toArray, List.set_cons_zero, List.set_cons_succ])
                  refine wpAnyH_ready (rs := [13]) (by kernel_rfl) (by simp) ?_
                  refine AllReadyH.cons (by (simp only [List.getElem?_toArray, List.getElem?_cons_succ, List.getElem?_cons_zero]) <;> rfl) (fun K hK => ?_) AllReadyH.nil
                  go_simp
                  skip
                  refine hK.out _ _ (by exact (X3.out.cells.imp id And.left)) (fun hHeld => ?_)
                  (try simp only [Act.put, List.setIfInBounds_toArray, List.set_cons_zero, List.set_cons_succ])
                  refine wpAnyH_done (by kernel_rfl) ?_ _
                  refine NoPanic.normal ?_
                  go_wp2_with fail
                  go_roundg (gk - 1)
                  case measure => omega
                  case rel => exact ⟨h + 1, by go_num, by have := HH.out; omega, Lib.hid (by have := T3.out; rw [← hpu.out, homeTo_set hin] at this; exact this), R3, X3, B3⟩
end Go.Proofs.YtlpibfafpljedaaGreatDoor

namespace Go.Proofs.YtlpibfafpljedaaGreatDoor
open Go.RowKit
set_option linter.unusedVariables false
set_option maxRecDepth 100000

set_option maxHeartbeats 4000000 in
theorem lyTable_same (v1 v2 : Value) (l : List Ent) (w : World) (h1 : EntsAt w v1 l) (h2 : EntsAt w v2 l) : Calls Tryz.prog 18 #[v1, v2] w fun e w' => e = .returned (.bool true) ∧ Below w.heap.size w w' := by
  obtain ⟨a1, c1, rfl, hc1, hm1⟩ := h1.form
  obtain ⟨a2, c2, rfl, hc2, hm2⟩ := h2.form
  obtain ⟨n, hn⟩ : ∃ n, l.length = n := ⟨_, rfl⟩
  rw [hn] at hc1 hc2 h1 h2 ⊢
  have H1 := Lib.hid h1
  have H2 := Lib.hid h2
  have HN := Lib.hid hn
  clear h1 h2 hn
  have hnn : ((n : Int) != (n : Int)) = false := by simp
  go_enter Tryz.func18, Tryz.ntmps18
  go_wp2_with fail
  go_loopg [5] n (fun gk s5 wr => ∃ k : Nat, s5 = .int .i64 (k : Int) ∧ k + gk = n ∧ Hid (Below w.heap.size w wr))
  case atStart => exact ⟨0, rfl, by omega, Lib.hid (Below.refl _ _)⟩
  case round =>
    obtain ⟨k, rfl, hk, BB⟩ := hrel
    by_cases hg : gk = 0
    · subst hg
      obtain rfl : k = n := by omega
      have hdn : decide ((k : Int) < (k : Int)) = false := by simp
      go_wp2_with fail
      go_ret
      exact ⟨rfl, BB.out⟩
    · have hkn : k < n := by omega
      have hkI : (k : Int) < (n : Int) := by omega
      have k0 : (0 : Int) ≤ (k : Int) := by omega
      have hgk : 1 ≤ gk := by omega
      have HK := Lib.hid hk
      obtain ⟨b1, off1, rfl, hb1, x0, x1, x2⟩ := (H1.out.below BB.out).get k hkn
      obtain ⟨b2, off2, rfl, hb2, y0, y1, y2⟩ := (H2.out.below BB.out).get k hkn
      obtain ⟨ent, hent⟩ : ∃ e, l.getD k (0, 0, 0) = e := ⟨_, rfl⟩
      rw [hent] at x0 x1 x2 y0 y1 y2
      obtain ⟨f, bt, vi⟩ := ent
      simp only at x0 x1 x2 y0 y1 y2
      have hff : (f == f) = true := by simp
      have hbb : (bt == bt) = true := by simp
      have hvv : (vi == vi) = true := by simp
      have hlive := BB.out
      clear hk hg hent
      go_wp2_with fail
      refine wp_region_noPanic ?_
      refine wp_region_held_drew (S := (fun W => W.cell? ⟨b1, off1 + k * 3, none⟩ = some (.int .i64 f) ∧ W.cell? ⟨b1, off1 + k * 3 + 1, none⟩ = some (.int .i64 bt) ∧ W.cell? ⟨b1, off1 + k * 3 + 2, none⟩ = some (.int .i64 vi) ∧ W.cell? ⟨b2, off2 + k * 3, none⟩ = some (.int .i64 f) ∧ W.cell? ⟨b2, off2 + k * 3 + 1, none⟩ = some (.int .i64 bt) ∧ W.cell? ⟨b2, off2 + k * 3 + 2, none⟩ = some (.int .i64 vi))) (by kernel_rfl) (by exact ⟨x0, x1, x2, y0, y1, y2⟩) (fun hHeld => ?_)
      refine wpAnyH_take (i := 0) (v := _) (by (simp only [List.getElem?_toArray, List.getElem?_cons_zero]) <;> rfl) (by kernel_rfl) (by kernel_rfl) (by kernel_rfl) (fun _ _ _ h => h) (Or.inl ⟨by rfl, fun w hSw => by ((try dsimp only at hSw); go_simp) <;> with_reducible rfl⟩) (by assumption) ?_
      (try simp only [Act.put, List.setIfInBounds_toArray, List.set_cons_zero, List.set_cons_succ])
      refine wpAnyH_take (i := 1) (v := _) (by (simp only [List.getElem?_toArray, List.getElem?_cons_succ, List.getElem?_cons_zero]) <;> rfl) (by kernel_rfl) (by kernel_rfl) (by kernel_rfl) (fun _ _ _ h => h) (Or.inl ⟨by rfl, fun w hSw => by ((try dsimp only at hSw); go_simp) <;> with_reducible rfl⟩) (by assumption) ?_
      (try simp only [Act.put, List.setIfInBounds_toArray, List.set_cons_zero, List.set_cons_succ])
      refine wpAnyH_take (i := 2) (v := _) (by (simp only [List.getElem?_toArray, List.getElem?_cons_succ, List.getElem?_cons_zero]) <;> rfl) (by kernel_rfl) (by kernel_rfl) (by kernel_rfl) (fun _ _ _ h => h) (Or.inl ⟨by rfl, fun w hSw => by ((try dsimp only at hSw); go_simp) <;> with_reducible rfl⟩) (by assumption) ?_
      (try simp only [Act.put, List.setIfInBounds_toArray, List.set_cons_zero, List.set_cons_succ])
      refine wpAnyH_take (i := 3) (v := _) (by (simp only [List.getElem?_toArray, List.getElem?_cons_succ, List.getElem?_cons_zero]) <;> rfl) (by kernel_rfl) (by kernel_rfl) (by kernel_rfl) (fun _ _ _ h => h) (Or.inl ⟨by rfl, fun w hSw => by ((try dsimp only at hSw); go_simp) <;> with_reducible rfl⟩) (by assumption) ?_
      (try simp only [Act.put, List.setIfInBounds_toArray, List.set_cons_zero, List.set_cons_succ])
      refine wpAnyH_take (i := 4) (v := _) (by (simp only [List.getElem?_toArray, List.getElem?_cons_succ, List.getElem?_cons_zero]) <;> rfl) (by kernel_rfl) (by kernel_rfl) (by kernel_rfl) (fun _ _ _ h => h) (Or.inl ⟨by rfl, fun w hSw => by ((try dsimp only at hSw); go_simp) <;> with_reducible rfl⟩) (by assumption) ?_
      (try simp only [Act.put, List.setIfInBounds_toArray, List.set_cons_zero, List.set_cons_succ])
      refine wpAnyH_take (i := 5) (v := _) (by (simp only [List.getElem?_toArray, List.getElem?_cons_succ, List.getElem?_cons_zero]) <;> rfl) (by kernel_rfl) (by kernel_rfl) (by kernel_rfl) (fun _ _ _ h => h) (Or.inl ⟨by rfl, fun w hSw => by ((try dsimp only at hSw); go_simp) <;> with_reducible rfl⟩) (by assumption) ?_
      (try simp only [Act.put, List.setIfInBounds_toArray, List.set_cons_zero, List.set_cons_succ])
      refine wpAnyH_take (i := 6) (v := _) (by (simp only [List.getElem?_toArray, List.getElem?_cons_succ, List.getElem?_cons_zero]) <;> rfl) (by kernel_rfl) (by kernel_rfl) (by kernel_rfl) (fun _ _ _ h => h) (Or.inl ⟨by rfl, fun w hSw => by ((try dsimp only at hSw); go_simp) <;> with_reducible rfl⟩) (by assumption) ?_
      (try simp only [Act.put, List.setIfInBounds_toArray, List.set_cons_zero, List.set_cons_succ])
      refine wpAnyH_take (i := 7) (v := _) (by (simp only [List.getElem?_toArray, List.getElem?_cons_succ, List.getElem?_cons_zero]) <;> rfl) (by kernel_rfl) (by kernel_rfl) (by kernel_rfl) (fun _ _ _ h => h) (Or.inl ⟨by rfl, fun w hSw => by ((try dsimp only at hSw); go_simp) <;> with_reducible rfl⟩) (by assumption) ?_
      (try simp only [Act.put, List.setIfInBounds_toArray, List.set_cons_zero, List.set_cons_succ])
      refine wpAnyH_take (i := 8) (v := _) (by (simp only [List.getElem?_toArray, List.getElem?_cons_succ, List.getElem?_cons_zero]) <;> rfl) (by kernel_rfl) (by kernel_rfl) (by kernel_rfl) (fun _ _ _ h => h) (Or.inl ⟨by rfl, fun w hSw => by ((try dsimp only at hSw); go_simp) <;> with_reducible rfl⟩) (by assumption) ?_
      (try simp only [Act.put, List.setIfInBounds_toArray, List.set_cons_zero, List.set_cons_succ])
      refine wpAnyH_done (by kernel_rfl) ?_ _
      refine NoPanic.normal ?_
      go_wp2_with fail
      go_roundg (gk - 1)
      case measure => omega
      case rel => exact ⟨k + 1, by go_num, by have := HK.out; omega, Lib.hid (Below.drew BB.out)⟩
set_option maxHeartbeats 4000000 in
theorem lyTables_same (v1 v2 : Value) (ls : List (List Ent)) (w : World) (h1 : TabsAt w v1 ls) (h2 : TabsAt w v2 ls) : Calls Tryz.prog 6 #[v1, v2] w fun e w' => e = .returned (.bool true) ∧ Below w.heap.size w w' := by
  obtain ⟨a1, c1, rfl, hc1, hm1⟩ := h1.form
  obtain ⟨a2, c2, rfl, hc2, hm2⟩ := h2.form
  obtain ⟨n, hn⟩ : ∃ n, ls.length = n := ⟨_, rfl⟩
  rw [hn] at hc1 hc2 h1 h2 ⊢
  have H1 := Lib.hid h1
  have H2 := Lib.hid h2
  have HN := Lib.hid hn
  clear h1 h2 hn
  have hnn : ((n : Int) != (n : Int)) = false := by simp
  go_enter Tryz.func6, Tryz.ntmps6
  go_wp2_with fail
  go_loopg [5] n (fun gk s5 wr => ∃ k : Nat, s5 = .int .i64 (k : Int) ∧ k + gk = n ∧ Hid (Below w.heap.size w wr))
  case atStart => exact ⟨0, rfl, by omega, Lib.hid (Below.refl _ _)⟩
  case round =>
    obtain ⟨k, rfl, hk, BB⟩ := hrel
    by_cases hg : gk = 0
    · subst hg
      obtain rfl : k = n := by omega
      have hdn : decide ((k : Int) < (k : Int)) = false := by simp
      go_wp2_with fail
      go_ret
      exact ⟨rfl, BB.out⟩
    · have hkn : k < n := by omega
      have hkI : (k : Int) < (n : Int) := by omega
      have k0 : (0 : Int) ≤ (k : Int) := by omega
      have hgk : 1 ≤ gk := by omega
      have HK := Lib.hid hk
      obtain ⟨b1, off1, u1, rfl, hb1, x0, hu1⟩ := (H1.out.below BB.out).get k hkn
      obtain ⟨b2, off2, u2, rfl, hb2, y0, hu2⟩ := (H2.out.below BB.out).get k hkn
      obtain ⟨ua1, uc1, e, _, _⟩ := hu1.form
      subst e
      obtain ⟨ua2, uc2, e, _, _⟩ := hu2.form
      subst e
      obtain ⟨m, hm⟩ : ∃ m, (ls.getD k []).length = m := ⟨_, rfl⟩
      have hly : ∀ W, Below wr.heap.size wr W → Calls Tryz.prog 18 #[.slice ua1 m uc1, .slice ua2 m uc2] W fun e w' => e = .returned (.bool true) ∧ Below W.heap.size W w' := fun W hW => by
        have := lyTable_same _ _ _ W (hu1.below hW) (hu2.below hW)
        rw [hm] at this
        exact this
      rw [hm] at x0 y0
      have HL := Lib.hid hly
      clear hk hg hu1 hu2 hly hm
      go_wp2_with fail
      refine wp_region_noPanic ?_
      refine wp_region_held_drew (S := (fun W => W.cell? ⟨b1, off1 + k, none⟩ = some (.slice ua1 m uc1) ∧ W.cell? ⟨b2, off2 + k, none⟩ = some (.slice ua2 m uc2))) (by kernel_rfl) (by exact ⟨x0, y0⟩) (fun hHeld => ?_)
      refine wpAnyH_take (i := 0) (v := _) (by (simp only [List.getElem?_toArray, List.getElem?_cons_zero]) <;> rfl) (by kernel_rfl) (by kernel_rfl) (by kernel_rfl) (fun _ _ _ h => h) (Or.inl ⟨by rfl, fun w hSw => by ((try dsimp only at hSw); go_simp) <;> with_reducible rfl⟩) (by assumption) ?_
      (try simp only [Act.put, List.setIfInBounds_toArray, List.set_cons_zero, List.set_cons_succ])
      refine wpAnyH_take (i := 1) (v := _) (by (simp only [List.getElem?_toArray, List.getElem?_cons_succ, List.getElem?_cons_zero]) <;> rfl) (by kernel_rfl) (by kernel_rfl) (by kernel_rfl) (fun _ _ _ h => h) (Or.inl ⟨by rfl, fun w hSw => by ((try dsimp only at hSw); go_simp) <;> with_reducible rfl⟩) (by assumption) ?_
      (try simp only [Act.put, List.setIfInBounds_toArray, List.set_cons_zero, List.set_cons_succ])
      refine wpAnyH_take (i := 2) (v := _) (by (simp only [List.getElem?_toArray, List.getElem?_cons_succ, List.getElem?_cons_zero]) <;> rfl) (by kernel_rfl) (by kernel_rfl) (by kernel_rfl) (fun _ _ _ h => h) (Or.inl ⟨by rfl, fun w hSw => by ((try dsimp only at hSw); go_simp) <;> with_reducible rfl⟩) (by assumption) ?_
      (try simp only [Act.put, List.setIfInBounds_toArray, List.set_cons_zero, List.set_cons_succ])
      refine wpAnyH_take (i := 3) (v := _) (by (simp only [List.getElem?_toArray, List.getElem?_cons_succ, List.getElem?_cons_zero]) <;> rfl) (by kernel_rfl) (by kernel_rfl) (by kernel_rfl) (fun _ _ _ h => h) (Or.inl ⟨by rfl, fun w hSw => by ((try dsimp only at hSw); go_simp) <;> with_reducible rfl⟩) (by assumption) ?_
      (try simp only [Act.put, List.setIfInBounds_toArray, List.set_cons_zero, List.set_cons_succ])
      refine wpAnyH_take (i := 4) (v := _) (by (simp only [List.getElem?_toArray, List.getElem?_cons_succ, List.getElem?_cons_zero]) <;> rfl) (by kernel_rfl) (by kernel_rfl) (by kernel_rfl) (fun _ _ _ h => h) (Or.inl ⟨by rfl, fun w hSw => by ((try dsimp only at hSw); go_simp) <;> with_reducible rfl⟩) (by assumption) ?_
      (try simp only [Act.put, List.setIfInBounds_toArray, List.set_cons_zero, List.set_cons_succ])
      refine wpAnyH_take (i := 5) (v := _) (by (simp only [List.getElem?_toArray, List.getElem?_cons_succ, List.getElem?_cons_zero]) <;> rfl) (by kernel_rfl) (by kernel_rfl) (by kernel_rfl) (fun _ _ _ h => h) (Or.inl ⟨by rfl, fun w hSw => by ((try dsimp only at hSw); go_simp) <;> with_reducible rfl⟩) (by assumption) ?_
      (try simp only [Act.put, List.setIfInBounds_toArray, List.set_cons_zero, List.set_cons_succ])
      refine wpAnyH_take (i := 6) (v := _) (by (simp only [List.getElem?_toArray, List.getElem?_cons_succ, List.getElem?_cons_zero]) <;> rfl) (by kernel_rfl) (by kernel_rfl) (by kernel_rfl) (fun _ _ _ h => h) (Or.inl ⟨by rfl, fun w hSw => by ((try dsimp only at hSw); go_simp) <;> with_reducible rfl⟩) (by assumption) ?_
      (try simp only [Act.put, List.setIfInBounds_toArray, List.set_cons_zero, List.set_cons_succ])
      refine wpAnyH_take (i := 7) (v := _) (by (simp only [List.getElem?_toArray, List.getElem?_cons_succ, List.getElem?_cons_zero]) <;> rfl) (by kernel_rfl) (by kernel_rfl) (by kernel_rfl) (fun _ _ _ h => h) (Or.inl ⟨by rfl, fun w hSw => by ((try dsimp only at hSw); go_simp) <;> with_reducible rfl⟩) (by assumption) ?_
      (try simp only [Act.put, List.setIfInBounds_toArray, List.set_cons_zero, List.set_cons_succ])
      refine wpAnyH_ready (rs := [8]) (by kernel_rfl) (by simp) ?_
      refine AllReadyH.cons (by (simp only [List.getElem?_toArray, List.getElem?_cons_succ, List.getElem?_cons_zero]) <;> rfl) (fun K hK => ?_) AllReadyH.nil
      go_simp
      (go_at_call 18; refine (HL.out _ (Below.drew (Below.refl _ _))).mono ?_; rintro e w3 ⟨rfl, hb3⟩; have hB3 : Below wr.heap.size wr w3 := (Below.drew (Below.refl _ _)).trans hb3; have z0 := (hB3.cell (p := ⟨b1, off1 + k, none⟩) hb1).trans x0; have z1 := (hB3.cell (p := ⟨b2, off2 + k, none⟩) hb2).trans y0; clear hb3)
      refine hK.out _ _ (by exact ⟨z0, z1⟩) (fun hHeld => ?_)
      (try simp only [Act.put, List.setIfInBounds_toArray, List.set_cons_zero, List.set_cons_succ])
      refine wpAnyH_take (i := 9) (v := _) (by (simp only [List.getElem?_toArray, List.getElem?_cons_succ, List.getElem?_cons_zero]) <;> rfl) (by kernel_rfl) (by kernel_rfl) (by kernel_rfl) (fun _ _ _ h => h) (Or.inl ⟨by rfl, fun w hSw => by ((try dsimp only at hSw); go_simp) <;> with_reducible rfl⟩) (by assumption) ?_
      (try simp only [Act.put, List.setIfInBounds_toArray, List.set_cons_zero, List.set_cons_succ])
      refine wpAnyH_done (by kernel_rfl) ?_ _
      refine NoPanic.normal ?_
      go_wp2_with fail
      go_roundg (gk - 1)
      case measure => omega
      case rel => exact ⟨k + 1, by go_num, by have := HK.out; omega, Lib.hid (BB.out.trans (hB3.mono BB.out.size))⟩
def SendDrawnT (w : World) (e : Ending) (w' : World) : Prop :=
  ∃ (v hv : Value) (rs : List (List Int)) (l : List Ent) (n : Nat), e = .returned (.tuple #[v, hv]) ∧ RowsAt w' v rs ∧ Square rs n ∧ 2 ≤ n ∧ n ≤ 5 ∧ EntsAt w' hv l ∧ l.length ≤ 6 ∧ Below w.heap.size w w'
set_option maxHeartbeats 2000000 in
theorem drawSendTables_any (a : Option Addr) (len cap : Nat) (zs : List Int) (w : World) (h : IsRow .u8 w a len cap zs) :
    Calls Tryz.prog 4 #[.slice a len cap] w (SendDrawnT w) := by
  obtain ⟨hm, hc⟩ := h.bounds
  have H := Lib.hid h
  clear h
  go_enter Tryz.func4, Tryz.ntmps4
  go_wp2_with fail
  refine (l6Open_any _ _ _ zs _ H.out hm hc).mono ?_
  rintro e w1 ⟨len', rfl, hw1, hr⟩
  have hO0 : Only w.heap.size w w1 := by rw [hw1]; exact (Only.refl _ _).alloc _
  have hs1 : w.heap.size < w1.heap.size := by rw [hw1]; simp
  have R := Lib.hid hr
  have O1 := Lib.hid hO0
  clear hr hO0 hw1
  go_wp2_with fail
  refine (l92Homes_any _ _ _ _ zs 0 _ (by omega) hs1 R.out).mono ?_
  rintro e w2 ⟨mv, hv, n, q, l, rfl, hn2, hn5, hq0, hq1, hS, hH, hl5⟩
  have hfin : Below w.heap.size w w2 := (O1.out.trans hS.on).below (Nat.le_refl _) (Nat.le_refl _)
  obtain ⟨rs, h1, h2, h3⟩ := hS.mat.rows
  have HE := Lib.hid hH.ents
  have HF := Lib.hid hfin
  have H2 := Lib.hid h2
  have H3 := Lib.hid h3
  clear hS hH hfin R O1 h2 h3
  go_wp2_with fail
  refine bodyPost_ret (results_tmp2 rfl _ _ _) rfl ?_
  exact ⟨_, _, rs, l, n, rfl, H2.out, ⟨h1, H3.out⟩, hn2, hn5, HE.out, by omega, HF.out⟩
end Go.Proofs.YtlpibfafpljedaaGreatDoor
