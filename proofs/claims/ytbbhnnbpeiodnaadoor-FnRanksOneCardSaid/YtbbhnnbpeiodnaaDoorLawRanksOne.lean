/- The walk of FnRanksOne. -/
import Derived.Test.YtbbhnnbpeiodnaaDoorRanksLawPick
import Derived.Test.YtbbhnnbpeiodnaaDoorRanksLy
import Derived.Test.YtbbhnnbpeiodnaaDoorRanksWays2
import Derived.Test.YtbbhnnbpeiodnaaDoorRanksPlain5
import Derived.Test.YtbbhnnbpeiodnaaDoorRanksPlayS
import Derived.Test.YtbbhnnbpeiodnaaDoorRanksGrid
import Derived.Test.YtbbhnnbpeiodnaaDoorTrail
import Derived.Deep.RegionHeld3
namespace Go.Proofs.YtbbhnnbpeiodnaaDoor
open Go.RowKit
set_option linter.unusedVariables false

/-- what is picked in the end is none, or a way that is liked: a path, and then home -/
theorem one_good {r : List (List (List Int))} {order : List Int} {k : Nat} (hr : ranksOk r = true) (hk : k < 3) (hne : (playW r order).getD k [] ≠ []) :
    0 ≤ idxP (fun x => decide (x = (playW r order).getD k [])) (r.getD k []) ∧ 2 ≤ ((playW r order).getD k []).length ∧ ((playW r order).getD k []).length ≤ 4 ∧
      ((playW r order).getD k []).getD (((playW r order).getD k []).length - 1) 0 = 0 ∧ GoodP (((playW r order).getD k []).take (((playW r order).getD k []).length - 1)) := by
  have hst := playW_state r order k
  generalize (playW r order).getD k [] = way at *
  unfold stateOk at hst
  rw [Bool.or_eq_true, decide_eq_true_eq, decide_eq_true_eq] at hst
  have hm : way ∈ r.getD k [] := by
    rcases hst with e | e
    · exact absurd e hne
    · exact e
  have hw : wayOk way ((k : Int) + 1) = true := (rankOk_iff2.1 (ranksOk_rank hr hk)).2.1 way hm
  obtain ⟨h1, _, h3⟩ := wayOk_ends hw
  have h4 := (wayOk_goodWay hw).2.1
  refine ⟨?_, h1, h4, h3, ?_⟩
  · have := idxP_nonneg (fun x => decide (x = way)) (r.getD k [])
    have h2 : (r.getD k []).any (fun x => decide (x = way)) = true := by
      rw [List.any_eq_true]
      exact ⟨way, hm, by simp⟩
    rw [h2, decide_eq_true_eq] at this
    exact this
  · have hg : ∀ j, j < way.length - 1 → (way.take (way.length - 1)).getD j 0 = way.getD j 0 := fun j hj => by
      rw [List.getD_eq_getElem?_getD, List.getD_eq_getElem?_getD, List.getElem?_take, if_pos hj]
    refine ⟨fun j hj => ?_, fun i j hij hj => ?_⟩
    · rw [List.length_take] at hj
      rw [hg j (by omega)]
      have := wayOk_step hw (i := j) (by omega)
      omega
    · rw [List.length_take] at hj
      rw [hg j (by omega), hg i (by omega)]
      exact (wayOk_step hw (i := j) (by omega)).2.2 i hij
theorem IntsAt.takeI {w : World} {a : Option Addr} {n cap k : Nat} {l : List Int} (h : IntsAt w (.slice a n cap) l) (hk : k ≤ n) : IntsAt w (.slice a k cap) (l.take k) := by
  obtain ⟨a', c', e, hc, hm, h⟩ := h
  simp only [Value.slice.injEq] at e
  obtain ⟨rfl, rfl, rfl⟩ := e
  have hl : (l.take k).length = k := by rw [List.length_take]; omega
  unfold IntsAt
  rw [hl]
  refine ⟨a, cap, rfl, by omega, hm, ?_⟩
  rcases h with h | ⟨b, off, e, hb, hcell⟩
  · left; omega
  · right
    refine ⟨b, off, e, hb, fun i hi => ?_⟩
    have := hcell i (by omega)
    have e2 : (l.take k).getD i 0 = l.getD i 0 := by rw [List.getD_eq_getElem?_getD, List.getD_eq_getElem?_getD, List.getElem?_take, if_pos hi]
    show _ = some (Value.int IntKind.i64 _)
    rw [e2]; exact this
set_option maxRecDepth 100000 in
set_option maxHeartbeats 8000000 in
theorem ranksOne_walk (a : Option Addr) (len cap : Nat) (zs : List Int) (w : World) (h : IsRow .u8 w a len cap zs) (hE : ErrOk w) :
    Calls Tryd.prog 3 #[.slice a len cap] w fun e w' => e = .returned (.bool true) ∧ Below w.heap.size w w' := by
  obtain ⟨hm, hc⟩ := h.bounds
  have hc' := hc
  unfold maxLen at hc'
  have H := Lib.hid h
  have HE := Lib.hid hE
  have BB := Lib.hid (Below.refl w.heap.size w)
  clear h hE
  go_enter Tryd.func3, Tryd.ntmps3
  by_cases hl : 1048576 < len
  · go_wp2_with fail
    go_ret
    exact ⟨rfl, Below.refl _ _⟩
  · go_wp2_with fail
    refine (drawPlay_any _ _ _ zs _ H.out).mono ?_
    rintro e w1 ⟨v, ub, uc, r, order, rfl, hg, hu, hb⟩
    obtain ⟨va, vc, e', hvc, hvm⟩ := hg.form
    subst e'
    obtain ⟨_, huc, hum⟩ := hu.len
    have G := Lib.hid hg
    have U := Lib.hid hu
    have BB := Lib.hid (BB.out.trans (hb.mono BB.out.size))
    clear hg hu hb
    obtain ⟨P, hP⟩ : ∃ P, (playF r order).1 = P := ⟨_, rfl⟩
    obtain ⟨d, hd⟩ : ∃ d, (playF r order).2 = d := ⟨_, rfl⟩
    have himpl : ∀ W, Below w1.heap.size w1 W → Calls Tryd.prog 6 #[.slice va r.length vc, .slice (some ⟨ub, 0, none⟩) order.length uc] W fun e w' => ∃ v', e = .returned (.tuple #[v', .bool d]) ∧ WaysOwn w' W.heap.size v' P ∧ Below W.heap.size W w' := fun W hW => by rw [← hP, ← hd]; exact implPlay_any _ _ r order W (G.out.below hW) (U.out.below hW)
    have hspec := specPlay_any _ _ r order w1 G.out U.out
    have hspec' : Calls Tryd.prog 5 #[.slice va r.length vc, .slice (some ⟨ub, 0, none⟩) order.length uc] w1 fun e w' => ∃ v', e = .returned (.tuple #[v', .bool d]) ∧ WaysOwn w' w1.heap.size v' P ∧ Below w1.heap.size w1 w' := by rw [← hP, ← hd]; exact hspec
    have HIM := Lib.hid himpl
    have HSP := Lib.hid hspec'
    have HPP := Lib.hid hP
    have HDD := Lib.hid hd
    have B1 := Lib.hid (Below.refl w1.heap.size w1)
    clear himpl hspec hspec' hP hd
    go_wp2_with fail
    refine (HSP.out).mono ?_
    rintro e w2 ⟨v2, rfl, ho, hb⟩
    obtain ⟨sa2, sc2, e', _, _⟩ := ho.rowsAt.form
    subst e'
    have W0 := Lib.hid ho.rowsAt
    have BB := Lib.hid (BB.out.trans (hb.mono BB.out.size))
    have B1 := Lib.hid (B1.out.trans (hb.mono B1.out.size))
    clear ho hb
    go_wp2_with fail
    refine (HIM.out _ B1.out).mono ?_
    rintro e w3 ⟨v3, rfl, ho, hb⟩
    obtain ⟨sa3, sc3, e', hsc3, hsm3⟩ := ho.rowsAt.form
    subst e'
    have X0 := Lib.hid ho.rowsAt
    have W0 := Lib.hid (W0.out.below hb)
    have BB := Lib.hid (BB.out.trans (hb.mono BB.out.size))
    have B1 := Lib.hid (B1.out.trans (hb.mono B1.out.size))
    clear ho hb
    have hdd : (d != d) = false := by simp
    have hde : (d == d) = true := by simp
    cases d
    · go_wp2_with (go_at_call 7; refine (lyWaysOne _ _ _ X0.out W0.out).mono ?_; rintro e w4 ⟨rfl, q4, rfl⟩)
      refine (lyWaysOne _ _ _ (X0.out.drew ⟨_, rfl⟩) (W0.out.drew ⟨_, rfl⟩)).mono ?_
      rintro e w5 ⟨rfl, q5, rfl⟩
      go_wp2_with fail
      go_ret
      exact ⟨rfl, belowDrewN BB.out _⟩
    · go_wp2_with fail
      refine (lyWaysOne _ _ _ X0.out W0.out).mono ?_
      rintro e w4 ⟨rfl, hd4⟩
      have X0 := Lib.hid (X0.out.drew hd4)
      have BB := Lib.hid (BB.out.trans (hd4.below _))
      have B1 := Lib.hid (B1.out.trans (hd4.below _))
      clear hd4 W0
      have hyes : ranksOk r = true ∧ orderOk order = true := by
        by_cases h : ranksOk r = true ∧ orderOk order = true
        · exact h
        · have e := HDD.out; rw [playF_no h] at e; cases e
      have hP : P = playW r order := by rw [← HPP.out, playF_yes hyes.1 hyes.2]
      subst hP
      have hol := orderOk_len hyes.2
      have hpl := playW_len r order
      have hr3 := ranksOk_len hyes.1
      have HPW := Lib.hid hyes
      rw [hpl] at X0 hsc3 ⊢
      have HONE := Lib.hid (fun k (hk : k < 3) hne => one_good (order := order) HPW.out.1 hk hne)
      have hgr := G.out
      rw [hr3] at hgr hvc ⊢
      have GG := Lib.hid hgr
      clear hr3 hpl hyes HIM HSP hgr G U
      go_wp2_with fail
      go_loopg [9] 3 (fun gk s9 wr => ∃ k : Nat, s9 = .int .i64 ((k : Int) + 1) ∧ k + gk = 3 ∧ Hid (Below w4.heap.size w4 wr))
      case atStart => exact ⟨0, by go_num, by omega, Lib.hid (Below.refl _ _)⟩
      case round =>
        obtain ⟨k, rfl, hk, B⟩ := hrel
        by_cases hg : gk = 0
        · subst hg
          obtain rfl : k = 3 := by omega
          go_wp2_with fail
          go_ret
          exact ⟨rfl, BB.out.trans (B.out.mono BB.out.size)⟩
        · have hk3 : k < 3 := by omega
          have hkI : (k : Int) < 3 := by omega
          have hkJ : (k : Int) + 1 ≤ 3 := by omega
          have k0 : (0 : Int) ≤ (k : Int) := by omega
          have hgk : 1 ≤ gk := by omega
          have HK := Lib.hid hk
          have i1 : (k : Int) + 1 - 1 = (k : Int) := by omega
          have i3 : IntKind.i64.wrap (k : Int) = (k : Int) := IntWalk.i64_in _ (by omega)
          obtain ⟨xb, xoff, xu, rfl, hxb, z0, hxu⟩ := (X0.out.below B.out).get k hk3
          obtain ⟨wa, wc, e, hwc, _⟩ := hxu.form
          subst e
          have hone := HONE.out k hk3
          obtain ⟨way, hway⟩ : ∃ v, (playW r order).getD k [] = v := ⟨_, rfl⟩
          rw [hway] at hxu z0 hwc hone
          have HO1 := Lib.hid hone
          clear hk hg hone hway
          by_cases hw0 : way = []
          · subst hw0
            go_wp2_with fail
            go_roundg (gk - 1)
            case measure => omega
            case rel => exact ⟨k + 1, by go_num, by have := HK.out; omega, B⟩
          · obtain ⟨q0, q2, q4, ql, qg⟩ := HO1.out hw0
            obtain ⟨wl, hwl⟩ : ∃ m, way.length = m + 1 := ⟨way.length - 1, by omega⟩
            rw [hwl] at hxu z0 hwc q2 q4 ql qg
            rw [Nat.add_sub_cancel] at ql qg
            obtain ⟨gb, goff, gu, rfl, hgb, g0, hgu⟩ := (GG.out.below (B1.out.trans (B.out.mono B1.out.size))).get k hk3
            obtain ⟨ra, rc, e, hrc, _⟩ := hgu.form
            subst e
            have hly := lyRank_any (.slice ra (r.getD k []).length rc) (.slice wa (wl + 1) wc) (r.getD k []) way wr hgu hxu
            obtain ⟨qi, hqi⟩ : ∃ v, idxP (fun x => decide (x = way)) (r.getD k []) = v := ⟨_, rfl⟩
            rw [hqi] at hly q0
            have hqn : ¬ qi < 0 := by omega
            have hqd : decide (qi < 0) = false := decide_eq_false hqn
            obtain ⟨yb, yoff, rfl, hyb, y0⟩ := hxu.get wl (by omega)
            rw [ql] at y0
            have HLY := Lib.hid hly
            have HPK := Lib.hid (fun W (hW : Below wr.heap.size wr W) => pathOk_good (.slice (some ⟨yb, yoff, none⟩) wl wc) (way.take wl) W ((hxu.takeI (by omega)).below hW) qg)
            have hwb : ((wl : Int) + 1 == 0) = false := beq_eq_false_iff_ne.2 (by omega)
            have hsubw : (wl : Int) + 1 - 1 = (wl : Int) := by omega
            have hww : IntKind.i64.wrap (wl : Int) = (wl : Int) := IntWalk.i64_in _ (by omega)
            have hwI : (wl : Int) < (wl : Int) + 1 := by omega
            have wl0 : (0 : Int) ≤ (wl : Int) := by omega
            have hwcI : (wl : Int) ≤ (wc : Int) := by omega
            clear hly qg hqi hgu hxu hw0 HO1 q0
            go_wp2_with fail
            refine HLY.out.mono ?_
            rintro e w6 ⟨rfl, hd6⟩
            have hb6 : Below wr.heap.size wr w6 := hd6.below _
            have y6 := (hb6.cell (p := ⟨yb, yoff + wl, none⟩) hyb).trans y0
            have B6 := Lib.hid (B.out.trans (hb6.mono B.out.size))
            have P6 := Lib.hid (HPK.out w6 hb6 (HE.out.below (BB.out.trans (B6.out.mono BB.out.size))))
            clear hd6 hb6 y0 HPK
            go_wp2_with fail
            refine P6.out.mono ?_
            rintro e w7 ⟨rfl, hb7⟩
            have B7 := Lib.hid (B6.out.trans (hb7.mono B6.out.size))
            clear hb7
            go_wp2_with fail
            go_roundg (gk - 1)
            case measure => omega
            case rel => exact ⟨k + 1, by go_num, by have := HK.out; omega, B7⟩
end Go.Proofs.YtbbhnnbpeiodnaaDoor
