/- impl.states, its function that calls itself. -/
import Derived.Test.YtlkchhedlbaomaaRanksIter
namespace Go.Proofs.Ytlkchhedlbaomaa
open Go.RowKit Go.Shelf
set_option linter.unusedVariables false
attribute [local go_sem] Oper.semAt_some

theorem take_set_snoc {ws : List (List Int)} {p : List Int} {k : Nat} (hk : k < ws.length) : (ws.set k p).take (k + 1) = ws.take k ++ [p] := by
  rw [List.take_succ_eq_append_getElem (by simp; exact hk)]
  simp [List.take_set_of_le]

set_option maxRecDepth 100000 in
set_option maxHeartbeats 4000000 in
theorem fill_any (r : List (List (List Int))) (w0 : World) (gv : Value) (C b1 l x y : Nat) (J : Nat → World → Prop)
    (hG : GridAt w0 gv r) (hr3 : r.length = 3) (hs3 : Short3 r) (hb1 : b1 < C) (hC : w0.heap.size ≤ C) (hx : x < C) (hy : y < C) (hx1 : b1 ≠ x) (hy1 : b1 ≠ y) (h0x : w0.heap.size ≤ x) (h0y : w0.heap.size ≤ y)
    (hJ : ∀ c W W', J c W → Below C W W' → J c W') (hY : RoundKeeps r w0 gv C b1 l x y J) :
    ∀ (d k : Nat) (m : Nat) (c : Nat) (pre ws : List (List Int)) (W : World), k + d = 3 → J c W → Fill w0 gv C b1 l W ws → ws.take k = pre →
      CallsIn Fence.wide m Try.prog 78 #[.int .i64 (k : Int), .pointer (some ⟨C, 0, none⟩), .pointer (some ⟨C + 2, 0, none⟩), .pointer (some ⟨C + 3, 0, none⟩), .pointer (some ⟨b1, 0, none⟩)] W (FillPost r w0 gv C b1 l J k pre c) := by
  intro d
  induction d with
  | zero =>
    intro k m c pre ws W hk hj hF hp
    obtain rfl : k = 3 := by omega
    obtain ⟨fn, tmps, assign, body, hyy, hR⟩ := hY (m - 1) c ws W hj hF
    have hwl := hF.wl
    have hpw : pre = ws := by rw [← hp, ← hwl, List.take_length]
    have c0 := hF.hy
    have c2 := hF.hw
    have HF := Lib.hid hF
    have HJ := Lib.hid hJ
    have HP := Lib.hid hpw
    have HPP := Lib.hid hp
    have hdd : ∀ k : Nat, (Fence.wide.depth.isSome = true → 1 ≤ k) := fun k h => by cases h
    clear hF hJ hpw hp hj
    refine callsIn_of_wp Try.func78 rfl trivial ?_ rfl
    simp only [Try.ntmps78, List.size_toArray, List.length_cons, List.length_nil, Nat.reduceAdd, Nat.reduceSub, Array.replicate_succ, Array.replicate_zero, List.push_toArray, List.append_toArray, List.nil_append, List.cons_append]
    gi_wp2_with ((try refine ⟨hdd _, ?_⟩); refine hR.mono ?_; clear hR; rintro e W1 ⟨rfl, hJ1, hb⟩)
    go_ret
    refine ⟨rfl, ?_, ws, HF.out.but hb hb1 hx hy hx1 hy1 h0x h0y, HPP.out⟩
    rw [HP.out]; exact hJ1
  | succ d ih =>
    intro k m c pre ws W hk hj hF hp
    have hk3 : k < 3 := by omega
    have hkI : (k : Int) < 3 := by omega
    have hkne : ((k : Int) == 3) = false := by simp; omega
    have hwl := hF.wl
    have hpl : pre.length = k := by rw [← hp, List.length_take]; omega
    have hs := hF.sz
    obtain ⟨ga, gc, hgv, hgc, hgm⟩ := hG.form
    rw [hr3] at hgv hgc
    subst hgv
    obtain ⟨gb, goff, rv, rfl, hgb, hgx, hrow⟩ := hG.get k hk3
    obtain ⟨row, hrw⟩ : ∃ row, r.getD k [] = row := ⟨_, rfl⟩
    rw [hrw] at hrow
    obtain ⟨ra, rc, rfl, hrc, hrm⟩ := hrow.form
    obtain ⟨rn, hrn⟩ : ∃ rn, row.length = rn := ⟨_, rfl⟩
    have hrn3 : rn ≤ 3 := by have := hs3 k; rw [hrw] at this; omega
    rw [hrn] at hrow hrc hgx
    obtain ⟨f, hf⟩ : ∃ f : Nat → Nat, f = fun i => totP r d (pre ++ [(chs row).getD i []]) := ⟨_, rfl⟩
    have hfin : totP r (3 - k) pre = sumTo f (rn + 1) := by
      rw [show 3 - k = d + 1 by omega, totP, hpl, hrw, hrn, hf]
    have e1 : ((k + 1 : Nat) : Int) = (k : Int) + 1 := by omega
    have hstep : ∀ (q : Nat) (v : Value) (p : List Int) (c' : Nat) (ws' : List (List Int)) (W' : World), f q = totP r d (pre ++ [p]) → IntsAt w0 v p → J (c + c') W' → Fill w0 (.slice (some ⟨gb, goff, none⟩) 3 gc) C b1 l W' ws' → ws'.take k = pre →
        CallsIn Fence.wide (m - 1) Try.prog 78 #[.int .i64 ((k : Int) + 1), .pointer (some ⟨C, 0, none⟩), .pointer (some ⟨C + 2, 0, none⟩), .pointer (some ⟨C + 3, 0, none⟩), .pointer (some ⟨b1, 0, none⟩)] (W'.setCell ⟨C + 1, k, none⟩ v) fun e W2 =>
          e = .returned (.bool true) ∧ J (c + (c' + f q)) W2 ∧ ∃ ws', Fill w0 (.slice (some ⟨gb, goff, none⟩) 3 gc) C b1 l W2 ws' ∧ ws'.take k = pre := fun q v p c' ws' W' hfq hv hj' hF' hp' => by
      have hwl' := hF'.wl
      have := ih (k + 1) (m - 1) (c + c') (pre ++ [p]) (ws'.set k p) _ (by omega) (hJ _ _ _ hj' ((Below.refl C W').setCell (p := ⟨C + 1, k, none⟩) (by simp) v)) (hF'.store hb1 hC hv k hk3) (by rw [take_set_snoc (by omega), hp'])
      rw [e1] at this
      refine this.mono ?_
      rintro e W2 ⟨he, hj2, ws2, hF2, hp2⟩
      refine ⟨he, ?_, ws2, hF2, ?_⟩
      · rw [show 3 - (k + 1) = d by omega] at hj2
        rw [hfq, ← Nat.add_assoc]; exact hj2
      · have h2 : (ws2.take (k + 1)).take k = ws2.take k := by rw [List.take_take]; congr 1; omega
        rw [← h2, hp2, ← hpl, List.take_left]
    have hnil : IntsAt w0 (.slice none 0 0) [] := ⟨none, 0, rfl, Nat.le_refl _, Nat.zero_le _, .inl rfl⟩
    have hc1 := hstep 0 _ [] 0 ws W (by rw [hf]; simp [chs]) hnil hj hF hp
    obtain ⟨av, a1, a2⟩ := hF.at k hk3
    have c0 := hF.hy
    have c2 := hF.hw
    have c3 := hF.hf
    have cb := hF.hr
    have HC1 := Lib.hid hc1
    have HST := Lib.hid hstep
    have HFIN := Lib.hid hfin
    have HFF := Lib.hid hf
    have HROW := Lib.hid hrow
    have HG := Lib.hid hG
    have HRN := Lib.hid hrn
    have HJ := Lib.hid hJ
    have hdd : ∀ k : Nat, (Fence.wide.depth.isSome = true → 1 ≤ k) := fun k h => by cases h
    clear hc1 hstep hfin hf hrow hG hrn hrw hr3 hF hp ih hJ hj hwl e1 hY
    refine callsIn_of_wp Try.func78 rfl trivial ?_ rfl
    simp only [Try.ntmps78, List.size_toArray, List.length_cons, List.length_nil, Nat.reduceAdd, Nat.reduceSub, Array.replicate_succ, Array.replicate_zero, List.push_toArray, List.append_toArray, List.nil_append, List.cons_append]
    gi_wp2_with (refine ⟨trivial, hdd _, ?_⟩; gi_at_call 78; refine (HC1.out).mono ?_; clear HC1; rintro e W2 ⟨rfl, hj2, ws2, hF2, hp2⟩; have d0 := hF2.hy; have d2 := hF2.hw; have d3 := hF2.hf; have db := hF2.hr; have hgx2 := (hF2.be.cell (p := ⟨gb, goff + k, none⟩) hgb).trans hgx; have HF2 := Lib.hid hF2; have HJ2 := Lib.hid hj2; have HP2 := Lib.hid hp2; clear hF2 hj2 hp2)
    have hs0 : sumTo f (0 + 1) = 0 + f 0 := rfl
    gi_loopw [27] (fun i wr => ∃ q : Nat, i = .int .i64 (q : Int) ∧ q ≤ rn ∧ Hid (J (c + sumTo f (q + 1)) wr) ∧ Hid (∃ ws', Fill w0 (.slice (some ⟨gb, goff, none⟩) 3 gc) C b1 l wr ws' ∧ ws'.take k = pre)) (fun i wr => rn - (intOf i).toNat)
    case atStart => exact ⟨0, rfl, Nat.zero_le _, Lib.hid (by rw [hs0]; exact HJ2.out), Lib.hid ⟨ws2, HF2.out, HP2.out⟩⟩
    case round =>
      obtain ⟨q, rfl, hq, hjr, hfr⟩ := hrel
      obtain ⟨ws3, hF3, hp3⟩ := hfr.out
      by_cases hqn : q = rn
      · subst hqn
        have HF3 := Lib.hid hF3
        have HP3 := Lib.hid hp3
        clear hF3 hp3 hfr
        gi_wp2
        go_ret
        refine ⟨rfl, ?_, ws3, HF3.out, HP3.out⟩
        rw [HFIN.out]; exact hjr.out
      · have hql : q < rn := by omega
        have hqI : (q : Int) < (rn : Int) := by omega
        obtain ⟨rb, roff, pv, rfl, hrb, hrx, hpv⟩ := (HROW.out).get q hql
        have hrx3 := (hF3.be.cell (p := ⟨rb, roff + q, none⟩) hrb).trans hrx
        have hnx := (HST.out) (q + 1) pv (row.getD q []) (sumTo f (q + 1)) ws3 wr (by rw [HFF.out]; simp [chs]) hpv hjr.out hF3 hp3
        obtain ⟨av3, a3, a4⟩ := hF3.at k hk3
        have g0 := hF3.hy
        have g2 := hF3.hw
        have g3 := hF3.hf
        have gb := hF3.hr
        have HNX := Lib.hid hnx
        have HQ := Lib.hid hq
        clear hnx hF3 hp3 hfr hq hqn
        obtain ⟨ha, hc', hpe, _, _⟩ := hpv.form
        subst hpe
        gi_wp2_with (refine ⟨trivial, hdd _, ?_⟩; gi_at_call 78; refine (HNX.out).mono ?_; clear HNX; rintro e W4 ⟨rfl, hj4, ws4, hF4, hp4⟩; have HF4 := Lib.hid hF4; have HJ4 := Lib.hid hj4; have HP4 := Lib.hid hp4; clear hF4 hj4 hp4)
        go_roundw
        case rel => exact ⟨q + 1, by go_num, by omega, Lib.hid HJ4.out, Lib.hid ⟨ws4, HF4.out, HP4.out⟩⟩
        case measure => simp [intOf]; omega
end Go.Proofs.Ytlkchhedlbaomaa
