/- spec.RanksPlay. -/
import Derived.Test.YtbbhnnbpeiodnaaDoorRanksPlayI
import Derived.Deep.RegionHeld3
namespace Go.Proofs.YtbbhnnbpeiodnaaDoor
open Go.RowKit
set_option linter.unusedVariables false
set_option maxRecDepth 100000

def litWays (s : Nat) : List Value := [.slice (some ⟨s, 0, none⟩) 0 0, .slice (some ⟨s + 1, 0, none⟩) 0 0, .slice (some ⟨s + 2, 0, none⟩) 0 0]
def litWorld (w : World) : World :=
  (((w.alloc (.cells #[] 3)).alloc (.cells #[] 3)).alloc (.cells #[] 3)).alloc (.cells #[.slice (some ⟨w.heap.size, 0, none⟩) 0 0, .slice (some ⟨w.heap.size + 1, 0, none⟩) 0 0, .slice (some ⟨w.heap.size + 2, 0, none⟩) 0 0] 24)
theorem litWorld_below (w : World) : Below w.heap.size w (litWorld w) := by
  unfold litWorld
  exact ((((Below.refl _ _).alloc (Nat.le_refl _) _).alloc (by simp) _).alloc (by simp; omega) _).alloc (by simp; omega) _
theorem litWorld_ways (w : World) : Ways (litWorld w) (w.heap.size + 3) w.heap.size (litWays w.heap.size) [[], [], []] := by
  have h0 : OwnInts (w.alloc (.cells #[] 3)) w.heap.size (.slice (some ⟨w.heap.size, 0, none⟩) 0 0) [] := World.ownsRow_lit w #[] 0 (Nat.le_refl _) (by simp [maxLen]) rfl
  have h1 : OwnInts ((w.alloc (.cells #[] 3)).alloc (.cells #[] 3)) w.heap.size (.slice (some ⟨w.heap.size + 1, 0, none⟩) 0 0) [] := by
    have := World.ownsRow_lit (base := w.heap.size) (e := 3) (size := 1) (w.alloc (.cells #[] 3)) #[] 0 (by simp) (by simp [maxLen]) rfl
    rw [World.size_alloc] at this; exact this
  have h2 : OwnInts (((w.alloc (.cells #[] 3)).alloc (.cells #[] 3)).alloc (.cells #[] 3)) w.heap.size (.slice (some ⟨w.heap.size + 2, 0, none⟩) 0 0) [] := by
    have := World.ownsRow_lit (base := w.heap.size) (e := 3) (size := 1) ((w.alloc (.cells #[] 3)).alloc (.cells #[] 3)) #[] 0 (by simp; omega) (by simp [maxLen]) rfl
    rw [World.size_alloc, World.size_alloc] at this; exact this
  have h3 : (litWorld w).ownsRow (w.heap.size + 3) 24 1 (.slice (some ⟨w.heap.size + 3, 0, none⟩) 3 3) 3 (litWays w.heap.size) := by
    have := World.ownsRow_lit (base := w.heap.size + 3) (e := 24) (size := 1) (((w.alloc (.cells #[] 3)).alloc (.cells #[] 3)).alloc (.cells #[] 3)) (litWays w.heap.size).toArray 3 (by simp) (by simp [maxLen]) rfl
    rw [World.size_alloc, World.size_alloc, World.size_alloc] at this; exact this
  refine ⟨rfl, rfl, h3, fun i hi => ?_, fun i j hi hj hne => ?_⟩
  · match i, hi with
    | 0, _ => exact World.ownsRow.alloc (World.ownsRow.alloc (World.ownsRow.alloc h0 _) _) _
    | 1, _ => exact World.ownsRow.alloc (World.ownsRow.alloc h1 _) _
    | 2, _ => exact World.ownsRow.alloc h2 _
  · have e : ∀ i, i < 3 → ((litWays w.heap.size).getD i undef).ownBlock = some (w.heap.size + i) := fun i hi => by
      match i, hi with
      | 0, _ => rfl
      | 1, _ => rfl
      | 2, _ => rfl
    intro b hb hb'
    rw [e i hi] at hb
    rw [e j hj] at hb'
    simp at hb hb'
    omega
theorem orderOk_bad {order : List Int} {k : Nat} (hk : k < order.length) (h : (decide (1 ≤ order.getD k 0) && decide (order.getD k 0 ≤ 3)) = false) : orderOk order = false := by
  cases h2 : orderOk order with
  | false => rfl
  | true => obtain ⟨h3, h4⟩ := orderOk_at h2 hk; generalize order.getD k 0 = x at h h3 h4; simp at h; omega
theorem orderOk_mk {order : List Int} (hl : order.length ≤ 60) (h : ∀ k, k < order.length → 1 ≤ order.getD k 0 ∧ order.getD k 0 ≤ 3) : orderOk order = true := by
  unfold orderOk
  rw [Bool.and_eq_true, List.all_eq_true]
  refine ⟨by simpa using hl, fun x hx => ?_⟩
  obtain ⟨k, hk, rfl⟩ := List.getElem_of_mem hx
  have := h k hk
  have e : order.getD k 0 = order[k] := by simp [List.getElem?_eq_getElem hk]
  rw [e] at this; simpa using this

set_option maxHeartbeats 4000000 in
theorem specPlay_any (v u : Value) (r : List (List (List Int))) (order : List Int) (w : World) (hv : GridAt w v r) (hu : IntsAt w u order) :
    Calls Tryd.prog 5 #[v, u] w (PlayPost r order w) := by
  have hok : ∀ W, Below w.heap.size w W → Calls Tryd.prog 13 #[v] W fun e w' => e = .returned (.bool (ranksOk r)) ∧ Drew W w' := fun W hW => specRanksOk_any v r W (hv.below hW)
  obtain ⟨b1, hb1⟩ : ∃ b, ranksOk r = b := ⟨_, rfl⟩
  rw [hb1] at hok
  obtain ⟨a, cap, rfl, hc, hm⟩ := hv.form
  obtain ⟨ua, uc, rfl, huc, hum⟩ := hu.form
  have H := Lib.hid hv
  have U := Lib.hid hu
  have HOK := Lib.hid hok
  have HB1 := Lib.hid hb1
  have LB := Lib.hid (litWorld_below w)
  clear hok hb1 hv hu
  cases b1
  · have HP := Lib.hid (playF_no (r := r) (order := order) (by rw [HB1.out]; simp))
    go_enter Tryd.func5, Tryd.ntmps5
    go_wp2_with (go_at_call 13; refine (HOK.out (litWorld w) LB.out).mono ?_; rintro e w1 ⟨rfl, hd⟩; have HD := Lib.hid hd; clear hd)
    go_ret2
    exact playPost_no HP.out (by omega) ((LB.out.trans (HD.out.below _)).alloc (LB.out.trans (HD.out.below _)).size _)
  · by_cases hl : 60 < order.length
    · have HP := Lib.hid (playF_no (r := r) (order := order) (by intro ⟨_, h⟩; have := orderOk_len h; omega))
      have hl' : (60 : Int) < (order.length : Int) := by omega
      go_enter Tryd.func5, Tryd.ntmps5
      go_wp2_with (go_at_call 13; refine (HOK.out (litWorld w) LB.out).mono ?_; rintro e w1 ⟨rfl, hd⟩; have HD := Lib.hid hd; clear hd)
      go_ret2
      exact playPost_no HP.out (by omega) ((LB.out.trans (HD.out.below _)).alloc (LB.out.trans (HD.out.below _)).size _)
    · have hl' : ¬ (60 : Int) < (order.length : Int) := by omega
      have hl3 := ranksOk_len HB1.out
      obtain ⟨n, hn⟩ : ∃ n, order.length = n := ⟨_, rfl⟩
      rw [hn] at huc hl hl' U ⊢
      rw [hl3] at hc H HOK ⊢
      have HN := Lib.hid hn
      have HL3 := Lib.hid hl3
      clear hn hl3
      go_enter Tryd.func5, Tryd.ntmps5
      go_wp2_with (go_at_call 13; refine (HOK.out (litWorld w) LB.out).mono ?_; rintro e w1 ⟨rfl, hd⟩; have HD := Lib.hid hd; clear hd)
      go_loopg [7] n (fun gh i wr => ∃ (k : Nat), i = .int .i64 k ∧ k + gh = n ∧ Hid (∃ vs, Ways wr (w.heap.size + 3) w.heap.size vs (playW r (order.take k))) ∧ Hid (Below w.heap.size w wr) ∧ Hid (∀ i, i < k → 1 ≤ order.getD i 0 ∧ order.getD i 0 ≤ 3))
      case atStart => exact ⟨0, rfl, by omega, Lib.hid ⟨_, (litWorld_ways w).below (HD.out.below _)⟩, Lib.hid (LB.out.trans (HD.out.below _)), Lib.hid fun i hi => by omega⟩
      case round =>
        obtain ⟨k, rfl, hk, hwy, hbe, hgd⟩ := hrel
        obtain ⟨vs, hwy⟩ := hwy.out
        have WY := Lib.hid hwy
        clear hwy
        by_cases hg0 : gk = 0
        · subst hg0
          obtain rfl : k = n := by omega
          have e : order.take k = order := by rw [← HN.out, List.take_length]
          have WF : Hid (Ways wr (w.heap.size + 3) w.heap.size vs (playW r order)) := Lib.hid (by have := WY.out; rw [e] at this; exact this)
          have HP := Lib.hid (playF_yes HB1.out (orderOk_mk (by rw [HN.out]; omega) (fun i hi => hgd.out i (by rw [← HN.out]; exact hi))))
          clear e
          go_wp2_with fail
          go_ret2
          exact playPost_yes HP.out (by omega) WF.out hbe.out
        · have hkn : k < n := by omega
          have hkI : (k : Int) < (n : Int) := by omega
          obtain ⟨ub, uoff, rfl, hub, hux0⟩ := U.out.get k hkn
          have hux := (hbe.out.cell (p := ⟨ub, uoff + k, none⟩) hub).trans hux0
          clear hux0
          have hubw : ub < wr.heap.size := by have := hbe.out.size; omega
          have hne1 : ¬ ub = w.heap.size + 1 + 1 + 1 := by omega
          have hne2 : ¬ w.heap.size + 1 + 1 + 1 = ub := by omega
          obtain ⟨y, hy⟩ : ∃ y, order.getD k 0 = y := ⟨_, rfl⟩
          rw [hy] at hux
          have hin : ∀ W, Calls Tryd.prog 14 #[.int .i64 y, .int .i64 1, .int .i64 3] W fun e w' => e = .returned (.bool (decide (1 ≤ y) && decide (y ≤ 3))) ∧ w' = W := fun W => in_any y 1 3 W
          obtain ⟨d, hd⟩ : ∃ d, (decide (1 ≤ y) && decide (y ≤ 3)) = d := ⟨_, rfl⟩
          rw [hd] at hin
          have HIN := Lib.hid hin
          have HY := Lib.hid hy
          have HK := Lib.hid hk
          clear hin hy hk
          cases d
          · have HP := Lib.hid (playF_no (r := r) (order := order) (by rw [orderOk_bad (k := k) (by rw [HN.out]; exact hkn) (by rw [HY.out]; exact hd)]; simp))
            clear hd
            go_wp2_with (go_at_call 14; refine (HIN.out _).mono ?_; rintro e wr ⟨rfl, rfl⟩)
            go_ret2
            exact playPost_no HP.out (by omega) (hbe.out.alloc hbe.out.size _)
          · obtain ⟨j, rfl⟩ : ∃ j : Nat, y = (j : Int) + 1 := ⟨(y - 1).toNat, by simp at hd; omega⟩
            have hj3 : j < 3 := by simp at hd; omega
            have hjI : (j : Int) < 3 := by omega
            clear hd
            have hst := playW_step r (by rw [HN.out]; exact hkn : k < order.length) HY.out
            have hcall : ∀ W, Below wr.heap.size wr W → Calls Tryd.prog 15 #[.slice a 3 cap, .slice (some ⟨w.heap.size + 1 + 1 + 1, 0, none⟩) 3 3, .int .i64 ((j : Int) + 1)] W fun e w' => ∃ v', e = .returned v' ∧ OwnInts w' W.heap.size v' (pickF (r.getD j []) (playW r (order.take k))) ∧ Below W.heap.size W w' := fun W hW =>
              l32Pick_any _ _ r (playW r (order.take k)) j W ((H.out.below hbe.out).below hW) ((WY.out.below hW).rowsAt) HL3.out WY.out.wl hj3 (good_of_ranksOk HB1.out hj3)
            have HST := Lib.hid hst
            have HC := Lib.hid hcall
            have i1 : (j : Int) + 1 - 1 = (j : Int) := by omega
            have i3 : IntKind.i64.wrap (j : Int) = (j : Int) := IntWalk.i64_in _ (by omega)
            have j0 : (0 : Int) ≤ (j : Int) := by omega
            have k0 : (0 : Int) ≤ (k : Int) := by omega
            have hs3 : w.heap.size + 3 < wr.heap.size := (World.ownsRow.lt WY.out.own _ rfl).2
            clear hst hcall
            go_wp2_with (go_at_call 14; refine (HIN.out _).mono ?_; rintro e wr ⟨rfl, rfl⟩)
            go_region_held3 (fun w' => w'.cell? ⟨ub, uoff + k, none⟩ = some (.int .i64 ((j : Int) + 1))) ((first | (simp [go_sem, *]; done) | (rw [World.cell?_setCell_other _ _ _ _ (by simp; omega)]; assumption))) (first | (go_at_call 15; refine (HC.out _ (by repeat (first | exact Below.refl _ _ | assumption | refine Below.drew ?_ | refine belowDrewN ?_ _ | refine Below.alloc ?_ (by first | exact Nat.le_refl _ | omega | (simp; done) | (simp; omega)) _ | refine Below.setCell ?_ (by first | exact Nat.le_refl _ | omega | (simp; done) | (simp; omega)) _))).mono ?_; rintro e w4 ⟨v', rfl, ho, hb4⟩; have HO := Lib.hid ho; have HB4 := Lib.hid (show Below wr.heap.size wr w4 from by refine Below.trans ?_ (hb4.mono (by first | exact Nat.le_refl _ | omega | (simp; done) | (simp; omega))); repeat (first | exact Below.refl _ _ | assumption | refine Below.drew ?_ | refine belowDrewN ?_ _ | refine Below.alloc ?_ (by first | exact Nat.le_refl _ | omega | (simp; done) | (simp; omega)) _ | refine Below.setCell ?_ (by first | exact Nat.le_refl _ | omega | (simp; done) | (simp; omega)) _)); have hown := (WY.out.below HB4.out).own; have hy : w4.cell? ⟨w.heap.size + 1 + 1 + 1, j, none⟩ = some (vs.getD j undef) := (by have e := hown.cellAt j (by omega); refine Eq.trans e ?_; simp [List.getElem?_eq_getElem (by rw [WY.out.vl]; omega : j < vs.length)]); have hz : w4.frozen? ⟨w.heap.size + 1 + 1 + 1, j, none⟩ = false := hown.frozenAt j; have hux4 := (HB4.out.cell (p := ⟨ub, uoff + k, none⟩) hubw).trans hux; obtain ⟨sa, sn, sc, rfl⟩ := isSlice1 ho; clear hown ho hb4))
            all_goals
              go_wp2_with fail
              go_roundg (gk - 1)
              case measure => omega
              case rel =>
                refine ⟨k + 1, by go_num, by have := HK.out; omega, ?_, Lib.hid ((hbe.out.trans (HB4.out.mono hbe.out.size)).setCell (by show w.heap.size ≤ w.heap.size + 1 + 1 + 1; omega) _), Lib.hid fun i hi => ?_⟩
                · refine (Lib.hid (Exists.intro (vs.set j (.slice sa sn sc)) ?_))
                  rw [HST.out]
                  exact WY.out.store HB4.out HO.out hbe.out.size j hj3
                · by_cases hik : i = k
                  · subst hik; rw [HY.out]; omega
                  · exact hgd.out i (by omega)
end Go.Proofs.YtbbhnnbpeiodnaaDoor
