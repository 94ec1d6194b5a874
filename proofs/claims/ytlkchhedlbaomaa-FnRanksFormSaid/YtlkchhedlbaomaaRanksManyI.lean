/- impl.RanksMany. -/
import Derived.Test.YtlkchhedlbaomaaRanksRange
namespace Go.Proofs.Ytlkchhedlbaomaa
open Go.RowKit Go.Shelf
set_option linter.unusedVariables false
attribute [local go_sem] Oper.semAt_some

theorem states_any (v : Value) (r : List (List (List Int))) (w : World) (hv : GridAt w v r) :
    Calls Try.prog 64 #[v] w fun e w' => e = .returned (.func (.func 77) #[] #[.pointer (some ⟨w.heap.size, 0, none⟩)]) ∧ w' = w.alloc (.cells #[v] 23) := by
  obtain ⟨a, cap, rfl, hc, hm⟩ := hv.form
  clear hv
  go_enter Try.func64, Try.ntmps64
  go_wp2_with fail
  go_ret
  exact ⟨rfl, rfl⟩

theorem wrap64_succ (x : Int) : wrap64 (wrap64 x + 1) = wrap64 (x + 1) := by unfold wrap64; omega
set_option maxRecDepth 100000 in
set_option maxHeartbeats 4000000 in
theorem implMany_any (v : Value) (r : List (List (List Int))) (w : World) (hv : GridAt w v r) :
    Calls Try.prog 33 #[v] w fun e w' => e = .returned (.int .i64 (manyF r)) ∧ Below w.heap.size w w' := by
  have hok := fun (W : World) (hW : Below w.heap.size w W) => implRanksOk_any v r W (hv.below hW)
  obtain ⟨b1, hb1⟩ : ∃ b, ranksOk r = b := ⟨_, rfl⟩
  rw [hb1] at hok
  obtain ⟨a, cap, rfl, hc, hm⟩ := hv.form
  have H := Lib.hid hv
  have HOK := Lib.hid hok
  have HB1 := Lib.hid hb1
  clear hok hb1 hv
  cases b1
  · have hM := manyF_no HB1.out
    rw [hM]
    clear hM
    go_enter Try.func33, Try.ntmps33
    go_wp2_with (go_at_call 20; refine (HOK.out _ (by repeat (first | exact Below.refl _ _ | assumption | refine Below.drew ?_ | refine belowDrewN ?_ _ | refine Below.alloc ?_ (by first | exact Nat.le_refl _ | omega | (simp; done) | (simp; omega)) _ | refine Below.setCell ?_ (by first | exact Nat.le_refl _ | omega | (simp; done) | (simp; omega)) _))).mono ?_; rintro e w1 ⟨rfl, hb1⟩)
    go_ret
    exact ⟨rfl, (by refine Below.trans ?_ (hb1.mono (by first | exact Nat.le_refl _ | omega | (simp; done) | (simp; omega))); repeat (first | exact Below.refl _ _ | assumption | refine Below.drew ?_ | refine belowDrewN ?_ _ | refine Below.alloc ?_ (by first | exact Nat.le_refl _ | omega | (simp; done) | (simp; omega)) _ | refine Below.setCell ?_ (by first | exact Nat.le_refl _ | omega | (simp; done) | (simp; omega)) _))⟩
  · have hM := manyF_yes HB1.out
    have hr3 := ranksOk_len HB1.out
    have hs3 := short3_of_ok HB1.out
    have ht := totP3_le hs3 []
    obtain ⟨T, hT⟩ : ∃ T, totP r 3 [] = T := ⟨_, rfl⟩
    rw [hM, hT]
    rw [hT] at ht
    have hgood := fun h (hh : h < 3) => good_of_ranksOk HB1.out hh
    have HT := Lib.hid hT
    have HR3 := Lib.hid hr3
    have HS3 := Lib.hid hs3
    have HG := Lib.hid hgood
    rw [hr3] at hc H HOK ⊢
    have hdd : ∀ (n k : Nat), (Fence.wide.depth.isSome = true → 1 ≤ k) := fun n k h => by cases h
    clear hM hr3 hs3 hT hgood
    refine (callsIn_wide (n := 9)).1 ?_
    refine callsIn_of_wp_marks Try.func33 rfl trivial ?_ rfl
    simp only [Try.ntmps33, List.size_toArray, List.length_cons, List.length_nil, Nat.reduceAdd, Nat.reduceSub, Array.replicate_succ, Array.replicate_zero, List.push_toArray, List.append_toArray, List.nil_append, List.cons_append]
    gi_wp2_with (first | (refine ⟨trivial, ?_⟩; gi_at_call 20; refine (callsIn_wide.2 (HOK.out _ (by repeat (first | exact Below.refl _ _ | assumption | refine Below.drew ?_ | refine belowDrewN ?_ _ | refine Below.alloc ?_ (by first | exact Nat.le_refl _ | omega | (simp; done) | (simp; omega)) _ | refine Below.setCell ?_ (by first | exact Nat.le_refl _ | omega | (simp; done) | (simp; omega)) _)))).mono ?_; rintro e w1 ⟨rfl, hb1⟩; have hB1 : Below w.heap.size w w1 := (by refine Below.trans ?_ (hb1.mono (by first | exact Nat.le_refl _ | omega | (simp; done) | (simp; omega))); repeat (first | exact Below.refl _ _ | assumption | refine Below.drew ?_ | refine belowDrewN ?_ _ | refine Below.alloc ?_ (by first | exact Nat.le_refl _ | omega | (simp; done) | (simp; omega)) _ | refine Below.setCell ?_ (by first | exact Nat.le_refl _ | omega | (simp; done) | (simp; omega)) _)); have hq0 : w1.cell? ⟨w.heap.size, 0, none⟩ = some (.slice a 3 cap) := (hb1.cell (p := ⟨w.heap.size, 0, none⟩) (by simp)).trans (Boxed.new w 23 (.slice a 3 cap)).cell; have hz1 : w.heap.size < w1.heap.size := (by have := hb1.size; simp at this; omega); clear hb1) | (refine ⟨trivial, ?_⟩; gi_at_call 64; refine (callsIn_wide.2 (states_any _ r _ (H.out.below (by repeat (first | exact Below.refl _ _ | assumption | refine Below.drew ?_ | refine belowDrewN ?_ _ | refine Below.alloc ?_ (by first | exact Nat.le_refl _ | omega | (simp; done) | (simp; omega)) _ | refine Below.setCell ?_ (by first | exact Nat.le_refl _ | omega | (simp; done) | (simp; omega)) _))))).mono ?_; rintro e w2 ⟨rfl, rfl⟩))
    obtain ⟨B, hB⟩ : ∃ B, w1.heap.size = B := ⟨_, rfl⟩
    obtain ⟨w2, hw2⟩ : ∃ x : World, x = (w1.alloc (.cells #[.int .i64 0] 3)).alloc (.cells #[.slice a 3 cap] 23) := ⟨_, rfl⟩
    have s2 : w2.heap.size = B + 2 := by rw [hw2]; simp [hB]
    have hB2 : Below w.heap.size w w2 := by rw [hw2]; exact (hB1.alloc (by omega) _).alloc (by simp; omega) _
    have hbx : Boxed w2 B 3 (.int .i64 0) := by rw [hw2, ← hB]; exact (Boxed.new w1 _ _).alloc _
    have hbr : w2.cell? ⟨B + 1, 0, none⟩ = some (.slice a 3 cap) := by
      have := (Boxed.new (w1.alloc (.cells #[.int .i64 0] 3)) 23 (.slice a 3 cap)).cell
      rw [World.size_alloc, hB] at this; rw [hw2]; exact this
    have hq2 : w2.cell? ⟨w.heap.size, 0, none⟩ = some (.slice a 3 cap) := by
      have : Below B w1 w2 := by rw [hw2, ← hB]; exact ((Below.refl _ w1).alloc (Nat.le_refl _) _).alloc (by simp) _
      exact (this.cell (p := ⟨w.heap.size, 0, none⟩) (by simp; omega)).trans hq0
    rw [← hw2, hB]
    have hBw : w.heap.size < B := by omega
    clear hw2 hq0 hB1 hz1 hB
    refine wpIn_rangeStates r w (.slice a 3 cap) B (B + 1) rfl rfl H.out HR3.out HS3.out (by omega) (by omega) (by omega) (by omega) hB2 hbr
      (fun c W => Boxed W B 3 (.int .i64 (wrap64 (c : Int))) ∧ W.cell? ⟨w.heap.size, 0, none⟩ = some (.slice a 3 cap) ∧ Below w.heap.size w W)
      (fun c A B' hs hb => ⟨(hb.block B (by omega)).trans hs.1, (hb.cell (p := ⟨w.heap.size, 0, none⟩) (by simp; omega)).trans hs.2.1, hs.2.2.trans (hb.mono (by omega))⟩)
      ⟨by rw [show wrap64 ((0 : Nat) : Int) = 0 from by simp [wrap64]]; exact hbx, hq2, hB2⟩
      (fun x => { tmps := #[.slice a 3 cap, .pointer (some ⟨w.heap.size, 0, none⟩), .int .i64 0, .pointer (some ⟨B, 0, none⟩), x, .slice a 3 cap, .bool true, .bool false, .slice a 3 cap, .func (.func 77) #[] #[.pointer (some ⟨B + 1, 0, none⟩)], x, undef, undef, undef, undef, undef, undef], defers := [] }) ?assign ?body ?done
    case assign =>
      intro l x W m K hK
      gi_wp2
      exact hK
    case body =>
      rintro l m c ws b W ⟨hx1, hx2, hx3⟩ hrows hwl _
      have hst := still_any _ _ r ws W (H.out.below hx3) hrows HR3.out hwl HG.out
      obtain ⟨q, hq⟩ : ∃ q, stillF r ws = q := ⟨_, rfl⟩
      rw [hq] at hst
      have ht0 : totP r 0 ws = if q = true then 1 else 0 := by unfold totP; rw [hq]
      have HST := Lib.hid hst
      have HX1 := Lib.hid hx1
      have HX3 := Lib.hid hx3
      have HT0 := Lib.hid ht0
      have hlt := hx1.lt
      clear hst hq hx1 hx3 ht0 hrows
      cases q
      · gi_wp2_with (refine ⟨trivial, hdd 0 _, ?_⟩; gi_at_call 63; refine (CallsIn.inRound l (callsIn_wide.2 (HST.out))).mono ?_; rintro e W2 ⟨rfl, hb2⟩)
        refine ⟨Only.of_below hb2, (hb2.block B hlt).trans ?_, (hb2.cell (p := ⟨w.heap.size, 0, none⟩) (by simp; omega)).trans hx2, HX3.out.trans (hb2.mono HX3.out.size)⟩
        rw [HT0.out]; exact HX1.out
      · gi_wp2_with (refine ⟨trivial, hdd 0 _, ?_⟩; gi_at_call 63; refine (CallsIn.inRound l (callsIn_wide.2 (HST.out))).mono ?_; rintro e W2 ⟨rfl, hb2⟩; have hx5 : Boxed W2 B 3 (.int .i64 (wrap64 (c : Int))) := (hb2.block B hlt).trans HX1.out; have hc5 := hx5.cell; have hf5 := hx5.frozen; have HX5 := Lib.hid hx5; clear hx5)
        refine ⟨(Only.of_below hb2).setCell (p := ⟨B, 0, none⟩) rfl _, ?_, (World.cell?_of_block (w := W2) (Below.heap_setCell _ _ _ w.heap.size (by simp; omega))).trans ((hb2.cell (p := ⟨w.heap.size, 0, none⟩) (by simp; omega)).trans hx2), (HX3.out.trans (hb2.mono HX3.out.size)).setCell (p := ⟨B, 0, none⟩) (by simp; omega) _⟩
        have e1 : c + totP r 0 ws = c + 1 := by rw [HT0.out]; simp
        have hset := HX5.out.set (.int .i64 (wrap64 (wrap64 (c : Int) + 1)))
        rw [wrap64_succ] at hset
        rw [e1, Int.natCast_add, show ((1 : Nat) : Int) = 1 from rfl, wrap64_succ]
        exact hset
    case done =>
      rintro D W hD ⟨hx1, hx2, hx3⟩ hK
      rw [HT.out] at hx1
      have e : wrap64 ((T : Nat) : Int) = (T : Int) := by unfold wrap64; omega
      rw [e] at hx1
      have hc5 := hx1.cell
      have HX3 := Lib.hid hx3
      clear hx1 hx3 e
      gi_wp2
      refine ⟨by simp, .inl ⟨_, _, rfl, run_takeDeferred hK, ?_⟩⟩
      exact ⟨_, results_tmp rfl _ _ _, rfl, HX3.out.trans ((But2.put (x := D) _).below (by have := HX3.out.size; omega) (by omega) HX3.out.size)⟩
end Go.Proofs.Ytlkchhedlbaomaa
