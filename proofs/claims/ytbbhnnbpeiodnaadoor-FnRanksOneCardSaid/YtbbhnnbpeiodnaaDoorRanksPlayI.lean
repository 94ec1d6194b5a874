/- impl.RanksPlay. -/
import Derived.Test.YtbbhnnbpeiodnaaDoorRanksPickAll
import Derived.Test.YtbbhnnbpeiodnaaDoorRanksCopy
import Derived.Test.YtbbhnnbpeiodnaaDoorRanksSl3
namespace Go.Proofs.YtbbhnnbpeiodnaaDoor
open Go.RowKit
set_option linter.unusedVariables false
set_option maxRecDepth 100000

def NeB (u v : Value) : Prop := ∀ b, u.ownBlock = some b → v.ownBlock ≠ some b
/-- Three ways in a block of their own, each in memory of its own. -/
structure Ways (w : World) (g lo : Nat) (vs : List Value) (ws : List (List Int)) : Prop where
  vl : vs.length = 3
  wl : ws.length = 3
  own : w.ownsRow g 24 1 (.slice (some ⟨g, 0, none⟩) 3 3) 3 vs
  rows : ∀ i, i < 3 → OwnInts w lo (vs.getD i undef) (ws.getD i [])
  apart : ∀ i j, i < 3 → j < 3 → i ≠ j → NeB (vs.getD i undef) (vs.getD j undef)
theorem OwnInts.set27 {w : World} {lo g j : Nat} {v u : Value} {l : List Int} {cur : Array Value} {mk : Nat × Nat} (h : OwnInts w lo v l) (hg : w.heap[g]? = some (.cells cur 24 mk)) : OwnInts (w.setCell ⟨g, j, none⟩ u) lo v l := by
  refine ⟨h.1, ?_⟩
  rcases h.2 with h | ⟨g', cap, cur', h1, h2, h3, h4⟩
  · exact .inl h
  · refine .inr ⟨g', cap, cur', h1, h2, (Below.heap_setCell _ _ _ _ ?_).trans h3, h4⟩
    intro e
    simp at e
    subst e
    rw [hg] at h3
    simp at h3
theorem ownsRow_block {w : World} {g n cap : Nat} {T : TypeId} {vs : List Value} (h : w.ownsRow g T 1 (.slice (some ⟨g, 0, none⟩) n cap) n vs) : ∃ cur, w.heap[g]? = some (.cells cur T (0, 0)) := by
  rcases h.2 with ⟨h', _⟩ | ⟨g', cap', cur, h', _, hg, _⟩
  · simp at h'
  · simp only [Value.slice.injEq, Option.some.injEq, Addr.mk.injEq, and_true, true_and] at h'
    obtain ⟨rfl, rfl⟩ := h'
    exact ⟨cur, hg⟩
theorem Ways.below {w w' : World} {g lo : Nat} {vs : List Value} {ws : List (List Int)} (h : Ways w g lo vs ws) (hb : Below w.heap.size w w') : Ways w' g lo vs ws :=
  ⟨h.vl, h.wl, owns_belowR h.own hb, fun i hi => (h.rows i hi).below hb, h.apart⟩
theorem Ways.rowsAt {w : World} {g lo : Nat} {vs : List Value} {ws : List (List Int)} (h : Ways w g lo vs ws) : RowsAt w (.slice (some ⟨g, 0, none⟩) 3 3) ws := by
  have hs := ownsRow_slice h.vl h.own
  refine ⟨_, by rw [h.wl]; exact hs, fun i hi => ?_⟩
  rw [h.wl] at hi
  exact (h.rows i hi).ints
/-- one way is stored, out of memory that has come since -/
theorem Ways.store {w w1 : World} {g lo : Nat} {vs : List Value} {ws : List (List Int)} {v : Value} {l : List Int} (h : Ways w g lo vs ws) (hb : Below w.heap.size w w1) (ho : OwnInts w1 w.heap.size v l) (hlo : lo ≤ w.heap.size) (j : Nat) (hj : j < 3) :
    Ways (w1.setCell ⟨g, j, none⟩ v) g lo (vs.set j v) (ws.set j l) := by
  have h1 := h.below hb
  obtain ⟨cur, hcur⟩ := ownsRow_block h1.own
  have hlt : ∀ i, i < 3 → ∀ b, (vs.getD i undef).ownBlock = some b → b < w.heap.size := fun i hi b hb => (World.ownsRow.lt (h.rows i hi) b hb).2
  have hge : ∀ b, v.ownBlock = some b → w.heap.size ≤ b := fun b hb => (World.ownsRow.lt ho b hb).1
  refine ⟨by simp [h.vl], by simp [h.wl], (h1.own.stored j v).1, fun i hi => ?_, fun i i' hi hi' hne => ?_⟩
  · have e1 : (vs.set j v).getD i undef = if i = j then v else vs.getD i undef := set_getD (by rw [h.vl]; exact hj)
    have e2 : (ws.set j l).getD i [] = if i = j then l else ws.getD i [] := by
      by_cases hij : i = j
      · subst hij; simp [h.wl, hi]
      · rw [if_neg hij]; simp [Ne.symm hij]
    rw [e1, e2]
    by_cases hij : i = j
    · rw [if_pos hij, if_pos hij]; exact (ho.lift hlo).set27 hcur
    · rw [if_neg hij, if_neg hij]; exact (h1.rows i hi).set27 hcur
  · rw [set_getD (by rw [h.vl]; exact hj), set_getD (by rw [h.vl]; exact hj)]
    by_cases hij : i = j
    · subst hij
      rw [if_pos rfl, if_neg (Ne.symm hne)]
      intro b hb e
      have := hlt i' hi' b e
      have := hge b hb
      omega
    · rw [if_neg hij]
      by_cases hij' : i' = j
      · rw [if_pos hij']
        intro b hb e
        have := hlt i hi b hb
        have := hge b e
        omega
      · rw [if_neg hij']; exact h.apart i i' hi hi' hne
/-- what RanksPlay hands back -/
def WaysOwn (w : World) (lo : Nat) (v : Value) (ws : List (List Int)) : Prop :=
  (ws = [] ∧ ∃ a cap, v = .slice a 0 cap ∧ cap ≤ 9223372036854775807) ∨ ∃ g vs, v = .slice (some ⟨g, 0, none⟩) 3 3 ∧ lo ≤ g ∧ Ways w g lo vs ws
theorem WaysOwn.rowsAt {w : World} {lo : Nat} {v : Value} {ws : List (List Int)} (h : WaysOwn w lo v ws) : RowsAt w v ws := by
  rcases h with ⟨rfl, a, cap, rfl, hc⟩ | ⟨g, vs, rfl, _, h⟩
  · exact ⟨fun _ => undef, ⟨a, cap, rfl, Nat.zero_le _, by unfold maxLen; exact hc, .inl rfl⟩, fun i hi => absurd hi (Nat.not_lt_zero _)⟩
  · exact h.rowsAt
def PlayPost (r : List (List (List Int))) (order : List Int) (w : World) (e : Ending) (w' : World) : Prop :=
  ∃ v, e = .returned (.tuple #[v, .bool (playF r order).2]) ∧ WaysOwn w' w.heap.size v (playF r order).1 ∧ Below w.heap.size w w'

theorem playF_no {r : List (List (List Int))} {order : List Int} (h : ¬ (ranksOk r = true ∧ orderOk order = true)) : playF r order = ([], false) := by unfold playF; rw [if_neg h]
theorem playF_yes {r : List (List (List Int))} {order : List Int} (h1 : ranksOk r = true) (h2 : orderOk order = true) : playF r order = (playW r order, true) := by unfold playF; rw [if_pos ⟨h1, h2⟩]

theorem playPost_no {r : List (List (List Int))} {order : List Int} {w w' : World} {a : Option Addr} {cap : Nat} (h : playF r order = ([], false)) (hc : cap ≤ 9223372036854775807) (hb : Below w.heap.size w w') :
    PlayPost r order w (.returned (.tuple #[.slice a 0 cap, .bool false])) w' := ⟨_, by rw [h], by rw [h]; exact .inl ⟨rfl, a, cap, rfl, hc⟩, hb⟩
theorem playPost_yes {r : List (List (List Int))} {order : List Int} {w w' : World} {g : Nat} {vs : List Value} (h : playF r order = (playW r order, true)) (hg : w.heap.size ≤ g) (hw : Ways w' g w.heap.size vs (playW r order)) (hb : Below w.heap.size w w') :
    PlayPost r order w (.returned (.tuple #[.slice (some ⟨g, 0, none⟩) 3 3, .bool true])) w' := ⟨_, by rw [h], by rw [h]; exact .inr ⟨g, vs, rfl, hg, hw⟩, hb⟩
def badHouse (h : Int) : Bool := decide (h < 1) || decide (3 < h)
set_option maxHeartbeats 400000 in
theorem play1_any (h : Int) (W : World) : Calls Tryd.prog 18 (#[.int .i64 h] ++ #[]) W fun e w' => e = .returned (.bool (badHouse h)) ∧ Drew W w' := by
  show Calls Tryd.prog 18 #[.int .i64 h] W _
  obtain ⟨c, hc⟩ : ∃ c, badHouse h = c := ⟨_, rfl⟩
  rw [hc]
  unfold badHouse at hc
  by_cases h1 : h < 1
  · have : c = true := by rw [← hc]; simp [h1]
    subst this
    clear hc
    go_enter Tryd.func18, Tryd.ntmps18
    go_wp2_with fail
    go_ret
    exact ⟨rfl, Drew.refl _⟩
  · by_cases h3 : 3 < h
    · have : c = true := by rw [← hc]; simp [h3]
      subst this
      clear hc
      go_enter Tryd.func18, Tryd.ntmps18
      go_wp2_with fail
      go_ret
      exact ⟨rfl, Drew.refl _⟩
    · have : c = false := by rw [← hc]; simp [h1, h3]
      subst this
      clear hc
      go_enter Tryd.func18, Tryd.ntmps18
      go_wp2_with fail
      go_ret
      exact ⟨rfl, Drew.refl _⟩
theorem any_bad {order : List Int} (hl : order.length ≤ 60) : order.any badHouse = !orderOk order := by
  unfold orderOk
  rw [decide_eq_true hl, Bool.true_and, Bool.eq_iff_iff, List.any_eq_true, Bool.not_eq_true', List.all_eq_false]
  constructor
  · rintro ⟨x, hx, hb⟩; refine ⟨x, hx, ?_⟩; unfold badHouse at hb; simp at hb ⊢; omega
  · rintro ⟨x, hx, hb⟩; refine ⟨x, hx, ?_⟩; unfold badHouse; simp at hb ⊢; omega
theorem orderOk_at {order : List Int} (h : orderOk order = true) {k : Nat} (hk : k < order.length) : 1 ≤ order.getD k 0 ∧ order.getD k 0 ≤ 3 := by
  unfold orderOk at h
  rw [Bool.and_eq_true, List.all_eq_true] at h
  have e : order.getD k 0 = order[k] := by simp [List.getElem?_eq_getElem hk]
  have := h.2 order[k] (List.getElem_mem _)
  rw [e]; simpa using this
theorem orderOk_len {order : List Int} (h : orderOk order = true) : order.length ≤ 60 := by
  unfold orderOk at h
  rw [Bool.and_eq_true] at h
  simpa using h.1
theorem playW_step (r : List (List (List Int))) {order : List Int} {k j : Nat} (hk : k < order.length) (hj : order.getD k 0 = (j : Int) + 1) :
    playW r (order.take (k + 1)) = (playW r (order.take k)).set j (pickF (r.getD j []) (playW r (order.take k))) := by
  have e : order.take (k + 1) = order.take k ++ [order.getD k 0] := by
    rw [List.take_succ_eq_append_getElem hk]; simp [List.getElem?_eq_getElem hk]
  rw [e, playW_snoc, hj]
  unfold stepW
  have : ((j : Int) + 1 - 1).toNat = j := by omega
  rw [this]
theorem info_r2P : (Tryd.prog.info? 24).map (fun i => (i.zero, i.size, i.bytes)) = some (some (.slice none 0 0), 1, 24) := by kernel_rfl

set_option maxHeartbeats 4000000 in
theorem implPlay_any (v u : Value) (r : List (List (List Int))) (order : List Int) (w : World) (hv : GridAt w v r) (hu : IntsAt w u order) :
    Calls Tryd.prog 6 #[v, u] w (PlayPost r order w) := by
  obtain ⟨i0, hi, hz0, hz1, hz2⟩ := info_parts info_r2P
  have hok := implRanksOk_any v r w hv
  have hcf := fun W (hW : Below w.heap.size w W) => slContainsFuncI_any 18 #[] badHouse u order W (hu.below hW) (enters_of Tryd.func18 (by kernel_rfl) rfl) (fun W l _ => play1_any l W)
  obtain ⟨b1, hb1⟩ : ∃ b, ranksOk r = b := ⟨_, rfl⟩
  rw [hb1] at hok
  obtain ⟨a, cap, rfl, hc, hm⟩ := hv.form
  obtain ⟨ua, uc, rfl, huc, hum⟩ := hu.form
  have H := Lib.hid hv
  have U := Lib.hid hu
  have HOK := Lib.hid hok
  have HCF := Lib.hid hcf
  have HB1 := Lib.hid hb1
  clear hok hcf hb1 hv hu
  cases b1
  · have HP := Lib.hid (playF_no (r := r) (order := order) (by rw [HB1.out]; simp))
    go_enter Tryd.func6, Tryd.ntmps6
    go_wp2_with (go_at_call 16; refine (HOK.out).mono ?_; rintro e w1 ⟨rfl, hb1⟩)
    go_ret2
    exact playPost_no HP.out (by omega) hb1
  · by_cases hl : 60 < order.length
    · have HP := Lib.hid (playF_no (r := r) (order := order) (by intro ⟨_, h⟩; have := orderOk_len h; omega))
      have hl' : (60 : Int) < (order.length : Int) := by omega
      go_enter Tryd.func6, Tryd.ntmps6
      go_wp2_with (go_at_call 16; refine (HOK.out).mono ?_; rintro e w1 ⟨rfl, hb1⟩)
      go_ret2
      exact playPost_no HP.out (by omega) hb1
    · have hl' : ¬ (60 : Int) < (order.length : Int) := by omega
      have ha := any_bad (order := order) (by omega)
      obtain ⟨b2, hb2⟩ : ∃ b, orderOk order = b := ⟨_, rfl⟩
      rw [hb2] at ha
      have HA := Lib.hid ha
      have HB2 := Lib.hid hb2
      clear ha hb2
      cases b2
      · have HP := Lib.hid (playF_no (r := r) (order := order) (by rw [HB2.out]; simp))
        have HCF' : Hid (∀ W, Below w.heap.size w W → Calls Tryd.prog 17 #[.slice ua order.length uc, .func (.func 18) #[] #[]] W fun e w' => e = .returned (.bool true) ∧ Drew W w') := Lib.hid fun W hW => by have := HCF.out W hW; rw [HA.out] at this; exact this
        go_enter Tryd.func6, Tryd.ntmps6
        go_wp2_with (first | (go_at_call 16; refine (HOK.out).mono ?_; rintro e w1 ⟨rfl, hb1⟩) | (go_at_call 17; refine (HCF'.out _ hb1).mono ?_; rintro e w2 ⟨rfl, q, rfl⟩))
        go_ret2
        exact playPost_no HP.out (by omega) (belowDrewN hb1 _)
      · have HP := Lib.hid (playF_yes HB1.out HB2.out)
        have HCF' : Hid (∀ W, Below w.heap.size w W → Calls Tryd.prog 17 #[.slice ua order.length uc, .func (.func 18) #[] #[]] W fun e w' => e = .returned (.bool false) ∧ Drew W w') := Lib.hid fun W hW => by have := HCF.out W hW; rw [HA.out] at this; exact this
        have hl3 := ranksOk_len HB1.out
        obtain ⟨n, hn⟩ : ∃ n, order.length = n := ⟨_, rfl⟩
        rw [hn] at huc hl hl' U HCF' ⊢
        rw [hl3] at hc H HOK ⊢
        have HN := Lib.hid hn
        have HL3 := Lib.hid hl3
        clear hn HCF hl3
        go_enter Tryd.func6, Tryd.ntmps6
        go_wp2_with (first | (go_at_call 16; refine (HOK.out).mono ?_; rintro e w1 ⟨rfl, hb1⟩) | (go_at_call 17; refine (HCF'.out _ hb1).mono ?_; rintro e w2 ⟨rfl, q, rfl⟩) | (at_make; refine wpList_make_full _ rfl (.const (.int .i64 3)) (.const (.int .i64 3)) 27 rfl w1.heap.size 24 i0 (.slice none 0 0) 1 Tryd.underlying27 hi hz0 hz1 .i64 .i64 3 3 3 rfl rfl rfl rfl (by rw [hz2]; omega) (by unfold maxLen; omega) (by simp) ?_; intro w3 hown hgrow))
        have hB3 : Below w.heap.size w w3 := (belowDrewN hb1 _).grown hgrow hb1.size (by intro k hk; cases hk)
        have hW0 : ∃ vs, Ways w3 w1.heap.size w.heap.size vs (playW r (order.take 0)) := by
          have hcells : (madeCells (Value.cells (.slice none 0 0)) (3 * 1)).toList = [.slice none 0 0, .slice none 0 0, .slice none 0 0] := by kernel_rfl
          rw [hcells] at hown
          refine ⟨_, rfl, rfl, hown, fun i hi => ?_, fun i j hi hj hne => ?_⟩
          · have e1 : [(Value.slice none 0 0), .slice none 0 0, .slice none 0 0].getD i undef = .slice none 0 0 := by
              match i, hi with
              | 0, _ => rfl
              | 1, _ => rfl
              | 2, _ => rfl
            have e2 : (playW r (order.take 0)).getD i [] = [] := by
              match i, hi with
              | 0, _ => rfl
              | 1, _ => rfl
              | 2, _ => rfl
            rw [e1, e2]; exact World.ownsRow_nil _ _ _ _
          · have e1 : [(Value.slice none 0 0), .slice none 0 0, .slice none 0 0].getD i undef = .slice none 0 0 := by
              match i, hi with
              | 0, _ => rfl
              | 1, _ => rfl
              | 2, _ => rfl
            rw [e1]; intro b hb; cases hb
        clear hown hgrow
        have hs1 := hb1.size
        clear hb1
        go_loopg [24] n (fun gh i wr => ∃ (k : Nat), i = .int .i64 k ∧ k + gh = n ∧ Hid (∃ vs, Ways wr w1.heap.size w.heap.size vs (playW r (order.take k))) ∧ Hid (Below w.heap.size w wr))
        case atStart => exact ⟨0, rfl, by omega, Lib.hid hW0, Lib.hid hB3⟩
        case round =>
          obtain ⟨k, rfl, hk, hwy, hbe⟩ := hrel
          obtain ⟨vs, hwy⟩ := hwy.out
          have WY := Lib.hid hwy
          clear hwy
          by_cases hg0 : gk = 0
          · subst hg0
            obtain rfl : k = n := by omega
            have e : order.take k = order := by rw [← HN.out, List.take_length]
            have WF : Hid (Ways wr w1.heap.size w.heap.size vs (playW r order)) := Lib.hid (by have := WY.out; rw [e] at this; exact this)
            clear e
            go_wp2_with fail
            go_ret2
            exact playPost_yes HP.out hs1 WF.out hbe.out
          · have hkn : k < n := by omega
            obtain ⟨ub, uoff, rfl, hub, hux⟩ := (U.out.below hbe.out).get k hkn
            obtain ⟨x0, x3⟩ := orderOk_at HB2.out (by rw [HN.out]; exact hkn : k < order.length)
            obtain ⟨j, hj⟩ : ∃ j : Nat, order.getD k 0 = (j : Int) + 1 := ⟨(order.getD k 0 - 1).toNat, by omega⟩
            have hj3 : j < 3 := by omega
            have hst := playW_step r (by rw [HN.out]; exact hkn : k < order.length) hj
            rw [hj] at hux
            have hcall : ∀ W, Below wr.heap.size wr W → Calls Tryd.prog 19 #[.slice a 3 cap, .slice (some ⟨w1.heap.size, 0, none⟩) 3 3, .int .i64 ((j : Int) + 1)] W fun e w' => ∃ v', e = .returned v' ∧ OwnInts w' W.heap.size v' (pickF (r.getD j []) (playW r (order.take k))) ∧ Below W.heap.size W w' := fun W hW =>
              preferred_any _ _ r (playW r (order.take k)) j W ((H.out.below hbe.out).below hW) ((WY.out.below hW).rowsAt) HL3.out WY.out.wl hj3 (good_of_ranksOk HB1.out hj3)
            have HST := Lib.hid hst
            have HC := Lib.hid hcall
            have HK := Lib.hid hk
            have i1 : (j : Int) + 1 - 1 = (j : Int) := by omega
            have hs3 : w1.heap.size < wr.heap.size := (World.ownsRow.lt WY.out.own _ rfl).2
            clear hst hcall hk hj x0 x3
            go_wp2_with (go_at_call 19; refine (HC.out wr (Below.refl wr.heap.size wr)).mono ?_; rintro e w4 ⟨v', rfl, ho, hb4⟩; have hown := (WY.out.below hb4).own; have hy : w4.cell? ⟨w1.heap.size, j, none⟩ = some (vs.getD j undef) := (by rw [hown.cellAt j (by omega)]; simp [List.getElem?_eq_getElem (by rw [WY.out.vl]; omega : j < vs.length)]); have hz : w4.frozen? ⟨w1.heap.size, j, none⟩ = false := hown.frozenAt j; have HO := Lib.hid ho; have HB4 := Lib.hid hb4; obtain ⟨sa, sn, sc, rfl⟩ := isSlice1 ho; clear hown ho hb4)
            go_roundg (gk - 1)
            case measure => omega
            case rel =>
              refine ⟨k + 1, by go_num, by have := HK.out; omega, ?_, Lib.hid ((hbe.out.trans (HB4.out.mono hbe.out.size)).setCell hs1 _)⟩
              refine (Lib.hid (Exists.intro (vs.set j (.slice sa sn sc)) ?_))
              rw [HST.out]
              exact WY.out.store HB4.out HO.out hbe.out.size j hj3
end Go.Proofs.YtbbhnnbpeiodnaaDoor
