/- The walk of FnDampPlay. -/
import Derived.Test.YtbjonkjigfnnnaaDampPlayMore
import Derived.Test.YtbjonkjigfnnnaaDampDrawPlay
import Derived.Test.YtbjonkjigfnnnaaInts
import Derived.Test.YtbjonkjigfnnnaaDampFlap
namespace Go.Proofs.Ytbjonkjigfnnnaa
open Go.RowKit
set_option linter.unusedVariables false

theorem more_owned {l : List Int} {n : Int} {D : Pain × Bool} (hd : playD (l ++ [n]) = D) {L : Nat} (hL : l.length = L) (B : Nat) (v : Value) (w : World) (h : w.ownsRow B 3 1 v (L + 1) (l.map (Value.int .i64) ++ [.int .i64 n])) :
    Calls Try.prog 34 #[v] w (NowPost D.1.1 D.1.2.1 D.1.2.2 D.2 w) := by
  subst hL
  have := implPlay_owned (l := l ++ [n]) w (by simpa using h)
  rwa [hd] at this
theorem own_news {B g cap n : Nat} {xs : List Value} {w : World} (h : w.ownsRow B 3 1 (.slice (some ⟨g, 0, none⟩) n cap) n xs) : ∀ j u, xs[j]? = some u → w.cell? ((⟨g, 0, none⟩ : Addr).add j) = some u := by
  intro j u hj
  have hlen := h.1
  have hjl : j < xs.length := by
    by_cases hx : j < xs.length
    · exact hx
    · rw [List.getElem?_eq_none (by omega)] at hj; simp at hj
  rw [add_at, Nat.zero_add, h.cellAt j (by omega), hj]
theorem Box3.belowAt {B b : Nat} {W w1 : World} {v0 v1 v2 : Value} (h : Box3 W b v0 v1 v2) (hb : Below B W w1) (hB : b < B) : Box3 w1 b v0 v1 v2 :=
  ⟨(hb.cell (p := ⟨b, 0, none⟩) hB).trans h.c0, (hb.cell (p := ⟨b, 1, none⟩) hB).trans h.c1, (hb.cell (p := ⟨b, 2, none⟩) hB).trans h.c2, (hb.frozen (p := ⟨b, 0, none⟩) hB).trans h.f0, (hb.frozen (p := ⟨b, 1, none⟩) hB).trans h.f1, (hb.frozen (p := ⟨b, 2, none⟩) hB).trans h.f2⟩
theorem ints_one (l : List Int) : ∀ u ∈ l.map (Value.int .i64), u.oneCell' = true := by
  intro u hu
  simp at hu
  obtain ⟨x, _, rfl⟩ := hu
  rfl

set_option maxHeartbeats 4000000 in
theorem lawPlay_walk (a : Option Addr) (len cap : Nat) (zs : List Int) (w : World) (h : IsRow .u8 w a len cap zs) :
    Calls Try.prog 15 #[.slice a len cap] w fun e w' => e = .returned (.bool true) ∧ Below w.heap.size w w' := by
  have H := Lib.hid h
  clear h
  by_cases hl : 1048576 < len
  · go_enter Try.func15, Try.ntmps15
    go_wp2
    go_ret
    exact ⟨rfl, Below.refl _ _⟩
  · obtain ⟨i0, hi, hz0, hz1, hz2⟩ := info_parts info_int
    go_enter Try.func15, Try.ntmps15
    go_wp2_with fail
    refine (drawPlay_any _ _ _ zs _ H.out).mono ?_
    rintro e wd ⟨v, l, rfl, own, hl7, hB1⟩
    have hzd := hB1.size
    have hs := fun (B : Nat) (w : World) (hown : w.ownsRow B 3 1 v l.length (l.map (Value.int .i64))) => specPlay_owned w hown
    have hii := fun (B : Nat) (w : World) (hown : w.ownsRow B 3 1 v l.length (l.map (Value.int .i64))) => implPlay_owned w hown
    have hmore := fun D m => playD_more (l := l) (D := D) (m := m)
    generalize playD l = D at hs hii hmore
    obtain ⟨⟨P, T, O⟩, ok⟩ := D
    have HS := Lib.hid hs
    have HI := Lib.hid hii
    have HM := Lib.hid hmore
    clear hs hii hmore
    go_wp2_with fail
    refine (HS.out _ _ own).mono ?_
    rintro e ws ⟨rfl, hb1⟩
    have own1 := (owns_below own hb1).alloc (.cells #[.int .i64 P, .int .i64 T, .bool O] 25)
    have hB1 : Below w.heap.size w ws := (by refine Below.trans ?_ (hb1.mono (by first | exact Nat.le_refl _ | omega | (simp; done) | (simp; omega))); repeat (first | exact Below.refl _ _ | assumption | refine Below.drew ?_ | refine belowDrewN ?_ _ | refine Below.alloc ?_ (by first | exact Nat.le_refl _ | omega | (simp; done) | (simp; omega)) _ | refine Below.setCell ?_ (by first | exact Nat.le_refl _ | omega | (simp; done) | (simp; omega)) _)); have hzws := hB1.size
    simp only at *
    have XS := Box3.new ws (.int .i64 P) (.int .i64 T) (.bool O) 25
    go_wp2_with fail
    refine (HI.out _ _ own1).mono ?_
    rintro e wi ⟨rfl, hb1⟩
    have own2 := (owns_below own1 hb1).alloc (.cells #[.int .i64 P, .int .i64 T, .bool O] 25)
    have hB1 : Below w.heap.size w wi := (by refine Below.trans ?_ (hb1.mono (by first | exact Nat.le_refl _ | omega | (simp; done) | (simp; omega))); repeat (first | exact Below.refl _ _ | assumption | refine Below.drew ?_ | refine belowDrewN ?_ _ | refine Below.alloc ?_ (by first | exact Nat.le_refl _ | omega | (simp; done) | (simp; omega)) _ | refine Below.setCell ?_ (by first | exact Nat.le_refl _ | omega | (simp; done) | (simp; omega)) _)); have hzwi := hB1.size; have XS := Box3.below (by first | exact XS | exact XS.alloc _) hb1 (by first | exact XS.size | (have := XS.size; simp; omega)); have XS_0 := XS.c0; have XS_1 := XS.c1; have XS_2 := XS.c2; have XS_s := XS.size
    have XI := Box3.new wi (.int .i64 P) (.int .i64 T) (.bool O) 25
    clear own own1
    cases ok
    · go_wp2_with fail
      go_ret
      exact ⟨rfl, by repeat (first | exact Below.refl _ _ | assumption | refine Below.drew ?_ | refine belowDrewN ?_ _ | refine Below.alloc ?_ (by first | exact Nat.le_refl _ | omega | (simp; done) | (simp; omega)) _ | refine Below.setCell ?_ (by first | exact Nat.le_refl _ | omega | (simp; done) | (simp; omega)) _)⟩
    · rcases owned_ints own2 with ⟨rfl, rfl⟩ | ⟨g, c, rfl, hg0, hg1, hgm, hgc⟩
      · go_wp2_with fail
        go_ret
        exact ⟨rfl, by repeat (first | exact Below.refl _ _ | assumption | refine Below.drew ?_ | refine belowDrewN ?_ _ | refine Below.alloc ?_ (by first | exact Nat.le_refl _ | omega | (simp; done) | (simp; omega)) _ | refine Below.setCell ?_ (by first | exact Nat.le_refl _ | omega | (simp; done) | (simp; omega)) _)⟩
      · by_cases hl0 : l.length = 0
        · have hl1 : ((l.length : Nat) : Int) = 0 := by omega
          go_wp2_with fail
          go_ret
          exact ⟨rfl, by repeat (first | exact Below.refl _ _ | assumption | refine Below.drew ?_ | refine belowDrewN ?_ _ | refine Below.alloc ?_ (by first | exact Nat.le_refl _ | omega | (simp; done) | (simp; omega)) _ | refine Below.setCell ?_ (by first | exact Nat.le_refl _ | omega | (simp; done) | (simp; omega)) _)⟩
        · obtain ⟨m, hm⟩ : ∃ m, l.getD (l.length - 1) 0 = m := ⟨_, rfl⟩
          obtain ⟨m0, m1, hfine, hback, hmo⟩ := HM.out _ _ rfl hm (by omega) hl7
          have hx := hgc (l.length - 1) (by omega)
          rw [hm, Nat.zero_add] at hx
          have HX0 := more_owned (n := m + 3) hmo (L := l.length) rfl
          have HZ0 := more_owned (l := l) (n := m - 1) rfl (L := l.length) rfl
          rw [hback] at HZ0
          have HY0 := fun w => implFlap_any P T O (m + 3) w
          have HC0 := fun w => implOk_any P T O w
          rw [show okB P T O = true from hfine] at HC0
          simp only [flapD, okD] at HX0
          generalize flapP P T O (m + 3) = P2 at HX0 HY0
          generalize nowT P T O (m + 3) = T2 at HX0 HY0
          generalize flapO P T O (m + 3) = O2 at HX0 HY0
          generalize okNow P T O (m + 3) = k2 at HX0 HY0
          generalize playD (l ++ [m - 1]) = Z at HZ0
          obtain ⟨⟨P3, T3, O3⟩, z3⟩ := Z
          simp only at HZ0
          have HX := Lib.hid HX0
          have HZ := Lib.hid HZ0
          have HY := Lib.hid HY0
          have HC := Lib.hid HC0
          have HONE := Lib.hid (ints_one l)
          have hml : (l.map (Value.int .i64)).length = l.length := by simp
          clear HX0 HZ0 HY0 HC0 hfine hback hmo hgc hm HS HI HM
          generalize l.map (Value.int .i64) = xs at *
          generalize l.length = L at *
          have HXS := Lib.hid hml
          obtain ⟨j, hj⟩ : ∃ j, L - 1 = j := ⟨_, rfl⟩
          rw [hj] at hx
          have w1 : IntKind.i64.wrap ((L : Int) - 1) = (j : Int) := by rw [show (L : Int) - 1 = (j : Int) from by omega]; exact IntWalk.i64_in _ (by omega)
          have hjL : (j : Int) < (L : Int) := by omega
          have hL0 : ¬ (L : Int) = 0 := by omega
          clear hj hml
          have ownwi : ((wi.alloc (.cells #[.int .i64 P, .int .i64 T, .bool O] 25)).alloc (.cells #[] 3)).ownsRow (wi.heap.size + 1) 3 1 (.slice (some ⟨wi.heap.size + 1, 0, none⟩) 0 0) 0 [] := by
            have := World.ownsRow_lit (base := wi.heap.size + 1) (e := 3) (size := 1) (wi.alloc (.cells #[.int .i64 P, .int .i64 T, .bool O] 25)) #[] 0 (by simp) (by simp [maxLen]) rfl
            rw [World.size_alloc] at this
            exact this
          have own2' := own2.alloc (.cells #[] 3)
          go_wp2_with (first
            | (at_builtin; (refine wpList_append_own _ rfl (.tmp 62) (.tmp 63) 39 rfl (wi.heap.size + 1) 3 i0 (.int .i64 0) 1 8 Try.underlying39 hi hz0 hz1 hz2 rfl (by decide) _ 0 [] rfl ownwi ⟨g, 0, none⟩ L c xs rfl (by rw [HXS.out]; omega) (own_news own2') HONE.out (by unfold maxLen; omega) (by omega) (by simp) ?_); intro vw5 w5 ownw5 hgroww5 _; (simp only [Nat.zero_add, List.nil_append] at ownw5); (have hbw5 : Below (wi.heap.size + 1) (wi.alloc (.cells #[.int .i64 P, .int .i64 T, .bool O] 25)) w5 := Below.grown ((Below.refl _ _).alloc (by simp) _) hgroww5 (by simp) (fun b hb => (ownwi.lt b hb).1)); have hzw5 := hbw5.size; rw [World.size_alloc] at hzw5; have hroww5 : ∀ b, vw5.ownBlock = some b → wi.heap.size + 1 ≤ b := fun b hb => (ownw5.lt b hb).1; clear hgroww5)
            | (at_builtin; (refine wpList_append_own _ rfl (.tmp 64) (.tmp 67) 39 rfl (wi.heap.size + 1) 3 i0 (.int .i64 0) 1 8 Try.underlying39 hi hz0 hz1 hz2 rfl (by decide) _ L xs rfl (ownw5.alloc _) ⟨w5.heap.size, 0, none⟩ 1 1 [.int .i64 _] rfl rfl (cell_one_new _ _ _) (by intro u hu; simp at hu; subst hu; rfl) (by unfold maxLen; omega) (by omega) (by simp; omega) ?_); intro vw6 w6 ownw6 hgroww6 _; have hbw6 : Below (wi.heap.size + 1) (wi.alloc (.cells #[.int .i64 P, .int .i64 T, .bool O] 25)) w6 := hbw5.trans (Below.grown ((Below.refl _ _).alloc (by omega) _) hgroww6 (by simp; omega) hroww5); have hzw6 := hbw6.size; rw [World.size_alloc] at hzw6; clear hgroww6))

          refine (HX.out _ _ _ ownw6).mono ?_
          rintro e w7 ⟨rfl, hb1⟩
          have hb7 : Below (wi.heap.size + 1) (wi.alloc (.cells #[.int .i64 P, .int .i64 T, .bool O] 25)) w7 := hbw6.trans (hb1.mono hzw6)
          have hz7 := hb7.size
          rw [World.size_alloc] at hz7
          have XS7 := (XS.alloc (.cells #[.int .i64 P, .int .i64 T, .bool O] 25)).belowAt hb7 (by omega)
          have XI7 := XI.belowAt hb7 (by omega)
          have XS7_0 := XS7.c0
          have XS7_1 := XS7.c1
          have XS7_2 := XS7.c2
          have XS7_s := XS7.size
          have XI7_0 := XI7.c0
          have XI7_1 := XI7.c1
          have XI7_2 := XI7.c2
          have XI7_s := XI7.size
          have XX := Box3.new w7 (.int .i64 P2) (.int .i64 T2) (.bool O2) 25
          have own7 : (w7.alloc (.cells #[.int .i64 P2, .int .i64 T2, .bool O2] 25)).ownsRow w.heap.size 3 1 (.slice (some ⟨g, 0, none⟩) L c) L xs := (owns_below own2 (by rw [World.size_alloc]; exact hb7)).alloc _
          have hA7 : Below w.heap.size w w7 := by (refine Below.trans ?_ (hb7.mono (by omega)); repeat (first | exact Below.refl _ _ | assumption | refine Below.drew ?_ | refine belowDrewN ?_ _ | refine Below.alloc ?_ (by first | exact Nat.le_refl _ | omega | (simp; done) | (simp; omega)) _ | refine Below.setCell ?_ (by first | exact Nat.le_refl _ | omega | (simp; done) | (simp; omega)) _))
          clear ownw5 ownw6 hbw5 hbw6 hroww5 hzw5 hzw6 own2' ownwi
          go_wp2_with fail
          refine (HY.out _).mono ?_
          rintro e w8 ⟨rfl, hb1⟩
          have XI8 := (XI7.alloc _).below hb1 (by simp; omega)
          have XX8 := XX.below hb1 XX.size
          have XI8_0 := XI8.c0
          have XI8_1 := XI8.c1
          have XI8_2 := XI8.c2
          have XI8_s := XI8.size
          have XX8_0 := XX8.c0
          have XX8_1 := XX8.c1
          have XX8_2 := XX8.c2
          have XX8_s := XX8.size
          have hz8 := hb1.size
          rw [World.size_alloc] at hz8
          have own8 := (owns_below own7 hb1).alloc (.cells #[.int .i64 P2, .int .i64 T2, .bool O2] 25)
          have hA8 : Below w.heap.size w w8 := by (refine Below.trans ?_ (hb1.mono (by simp; omega)); repeat (first | exact Below.refl _ _ | assumption | refine Below.drew ?_ | refine belowDrewN ?_ _ | refine Below.alloc ?_ (by first | exact Nat.le_refl _ | omega | (simp; done) | (simp; omega)) _ | refine Below.setCell ?_ (by first | exact Nat.le_refl _ | omega | (simp; done) | (simp; omega)) _))
          have XY := Box3.new w8 (.int .i64 P2) (.int .i64 T2) (.bool O2) 25
          have ownw8 : ((w8.alloc (.cells #[.int .i64 P2, .int .i64 T2, .bool O2] 25)).alloc (.cells #[] 3)).ownsRow (w8.heap.size + 1) 3 1 (.slice (some ⟨w8.heap.size + 1, 0, none⟩) 0 0) 0 [] := by
            have := World.ownsRow_lit (base := w8.heap.size + 1) (e := 3) (size := 1) (w8.alloc (.cells #[.int .i64 P2, .int .i64 T2, .bool O2] 25)) #[] 0 (by simp) (by simp [maxLen]) rfl
            rw [World.size_alloc] at this
            exact this
          have own8' := own8.alloc (.cells #[] 3)
          go_wp2_with (first
            | (at_builtin; (refine wpList_append_own _ rfl (.tmp 80) (.tmp 81) 39 rfl (w8.heap.size + 1) 3 i0 (.int .i64 0) 1 8 Try.underlying39 hi hz0 hz1 hz2 rfl (by decide) _ 0 [] rfl ownw8 ⟨g, 0, none⟩ L c xs rfl (by rw [HXS.out]; omega) (own_news own8') HONE.out (by unfold maxLen; omega) (by omega) (by simp) ?_); intro vw9 w9 ownw9 hgroww9 _; simp only [Nat.zero_add, List.nil_append] at ownw9; have hbw9 : Below (w8.heap.size + 1) (w8.alloc (.cells #[.int .i64 P2, .int .i64 T2, .bool O2] 25)) w9 := Below.grown ((Below.refl _ _).alloc (by simp) _) hgroww9 (by simp) (fun b hb => (ownw8.lt b hb).1); have hzw9 := hbw9.size; rw [World.size_alloc] at hzw9; have hroww9 : ∀ b, vw9.ownBlock = some b → w8.heap.size + 1 ≤ b := fun b hb => (ownw9.lt b hb).1; clear hgroww9)
            | (at_builtin; (refine wpList_append_own _ rfl (.tmp 82) (.tmp 85) 39 rfl (w8.heap.size + 1) 3 i0 (.int .i64 0) 1 8 Try.underlying39 hi hz0 hz1 hz2 rfl (by decide) _ L xs rfl (ownw9.alloc _) ⟨w9.heap.size, 0, none⟩ 1 1 [.int .i64 _] rfl rfl (cell_one_new _ _ _) (by intro u hu; simp at hu; subst hu; rfl) (by unfold maxLen; omega) (by omega) (by simp; omega) ?_); intro vw10 w10 ownw10 hgroww10 _; have hbw10 : Below (w8.heap.size + 1) (w8.alloc (.cells #[.int .i64 P2, .int .i64 T2, .bool O2] 25)) w10 := hbw9.trans (Below.grown ((Below.refl _ _).alloc (by omega) _) hgroww10 (by simp; omega) hroww9); have hzw10 := hbw10.size; rw [World.size_alloc] at hzw10; clear hgroww10))

          refine (HZ.out _ _ _ ownw10).mono ?_
          rintro e w11 ⟨rfl, hb1⟩
          have hb11 : Below (w8.heap.size + 1) (w8.alloc (.cells #[.int .i64 P2, .int .i64 T2, .bool O2] 25)) w11 := hbw10.trans (hb1.mono hzw10)
          have hz11 := hb11.size
          rw [World.size_alloc] at hz11
          have XIe := (XI8.alloc (.cells #[.int .i64 P2, .int .i64 T2, .bool O2] 25)).belowAt hb11 (by have := XI8.size; omega)
          have XXe := (XX8.alloc (.cells #[.int .i64 P2, .int .i64 T2, .bool O2] 25)).belowAt hb11 (by have := XX8.size; omega)
          have XYe := XY.belowAt hb11 (by omega)
          have e0 := XIe.c0
          have e1 := XIe.c1
          have e2 := XIe.c2
          have XIe_s := XIe.size
          have f0 := XXe.c0
          have f1 := XXe.c1
          have f2 := XXe.c2
          have XXe_s := XXe.size
          have k0 := XYe.c0
          have k1 := XYe.c1
          have k3 := XYe.c2
          have XYe_s := XYe.size
          have hB1 : Below w.heap.size w w11 := by (refine Below.trans ?_ (hb11.mono (by omega)); repeat (first | exact Below.refl _ _ | assumption | refine Below.drew ?_ | refine belowDrewN ?_ _ | refine Below.alloc ?_ (by first | exact Nat.le_refl _ | omega | (simp; done) | (simp; omega)) _ | refine Below.setCell ?_ (by first | exact Nat.le_refl _ | omega | (simp; done) | (simp; omega)) _))
          cases k2
          all_goals
            go_wp2_with (go_at_call 21; refine (HC.out _).mono ?_; rintro e w1 ⟨rfl, hb1⟩; have hB1 : Below w.heap.size w w1 := (by refine Below.trans ?_ (hb1.mono (by first | exact Nat.le_refl _ | omega | (simp; done) | (simp; omega))); repeat (first | exact Below.refl _ _ | assumption | refine Below.drew ?_ | refine belowDrewN ?_ _ | refine Below.alloc ?_ (by first | exact Nat.le_refl _ | omega | (simp; done) | (simp; omega)) _ | refine Below.setCell ?_ (by first | exact Nat.le_refl _ | omega | (simp; done) | (simp; omega)) _)); have hzw1 := hB1.size; have XIe := Box3.below (by first | exact XIe | exact XIe.alloc _) hb1 (by first | exact XIe.size | (have := XIe.size; simp; omega)); have XIe_0 := XIe.c0; have XIe_1 := XIe.c1; have XIe_2 := XIe.c2; have XIe_s := XIe.size; have XXe := Box3.below (by first | exact XXe | exact XXe.alloc _) hb1 (by first | exact XXe.size | (have := XXe.size; simp; omega)); have XXe_0 := XXe.c0; have XXe_1 := XXe.c1; have XXe_2 := XXe.c2; have XXe_s := XXe.size; have XYe := Box3.below (by first | exact XYe | exact XYe.alloc _) hb1 (by first | exact XYe.size | (have := XYe.size; simp; omega)); have XYe_0 := XYe.c0; have XYe_1 := XYe.c1; have XYe_2 := XYe.c2; have XYe_s := XYe.size)
            go_ret
            exact ⟨rfl, by repeat (first | exact Below.refl _ _ | assumption | refine Below.drew ?_ | refine belowDrewN ?_ _ | refine Below.alloc ?_ (by first | exact Nat.le_refl _ | omega | (simp; done) | (simp; omega)) _ | refine Below.setCell ?_ (by first | exact Nat.le_refl _ | omega | (simp; done) | (simp; omega)) _)⟩
end Go.Proofs.Ytbjonkjigfnnnaa
