/- The walk of FnDampSteady. -/
import Derived.Test.YtbjonkjigfnnnaaDampDrawPlay
import Derived.Test.YtbjonkjigfnnnaaDampPlayFacts
import Derived.Test.YtbjonkjigfnnnaaInts
namespace Go.Proofs.Ytbjonkjigfnnnaa
open Go.RowKit
set_option linter.unusedVariables false

theorem far_owned {s k B : Nat} {v : Value} (w : World) (hs : s < 9) (hk : k < 8) (hsk : s + 16 * k ≤ 115) (h : w.ownsRow B 3 1 v k ((far s k).map (Value.int .i64))) :
    ∃ P T, P < 200 ∧ Calls Try.prog 34 #[v] w (NowPost P T false true w) := by
  obtain ⟨h1, h2, h3⟩ := far_steady s hs k hk hsk
  have := implPlay_owned (l := far s k) w (by rw [far_length]; exact h)
  rw [h1, h2] at this
  exact ⟨_, _, h3, this⟩

set_option maxHeartbeats 2000000 in
theorem steady_walk (a : Option Addr) (len cap : Nat) (zs : List Int) (a2 : Option Addr) (len2 cap2 : Nat) (zs2 : List Int) (w : World) (h : IsRow .u8 w a len cap zs) (h2 : IsRow .u8 w a2 len2 cap2 zs2) :
    Calls Try.prog 17 #[.slice a len cap, .slice a2 len2 cap2] w fun e w' => e = .returned (.bool true) ∧ Below w.heap.size w w' := by
  have H := Lib.hid h
  clear h h2
  by_cases hl : 1048576 < len
  · go_enter Try.func17, Try.ntmps17
    go_wp2
    go_ret
    exact ⟨rfl, Below.refl _ _⟩
  · by_cases hl2 : 1048576 < len2
    · go_enter Try.func17, Try.ntmps17
      go_wp2
      go_ret
      exact ⟨rfl, Below.refl _ _⟩
    · obtain ⟨n, hn⟩ : ∃ n, len2 % 9 = n := ⟨_, rfl⟩
      have hn9 : n < 9 := by omega
      have hmod : Int.tmod (len2 : Int) 9 = (n : Int) := by rw [Int.tmod_eq_emod_of_nonneg (by omega)]; omega
      clear hn
      obtain ⟨i0, hi, hz0, hz1, hz2⟩ := info_parts info_int
      go_enter Try.func17, Try.ntmps17
      go_wp2_with fail
      refine (drawPlay_any _ _ _ zs _ H.out).mono ?_
      rintro e wd ⟨v, l, rfl, own, hl7, hB1⟩
      have hzd := hB1.size
      have hs := fun (B : Nat) (w : World) (hown : w.ownsRow B 3 1 v l.length (l.map (Value.int .i64))) => specPlay_owned w hown
      have hii := fun (B : Nat) (w : World) (hown : w.ownsRow B 3 1 v l.length (l.map (Value.int .i64))) => implPlay_owned w hown
      generalize playD l = D at hs hii
      obtain ⟨⟨P, T, O⟩, ok⟩ := D
      have HS := Lib.hid hs
      have HI := Lib.hid hii
      clear hs hii
      go_wp2_with fail
      refine (HS.out _ _ own).mono ?_
      rintro e ws ⟨rfl, hb1⟩
      have own1 := (owns_below own hb1).alloc (.cells #[.int .i64 P, .int .i64 T, .bool O] 25)
      have hB1 : Below w.heap.size w ws := (by refine Below.trans ?_ (hb1.mono (by first | exact Nat.le_refl _ | omega | (simp; done) | (simp; omega))); repeat (first | exact Below.refl _ _ | assumption | refine Below.drew ?_ | refine belowDrewN ?_ _ | refine Below.alloc ?_ (by first | exact Nat.le_refl _ | omega | (simp; done) | (simp; omega)) _ | refine Below.setCell ?_ (by first | exact Nat.le_refl _ | omega | (simp; done) | (simp; omega)) _)); have hzws := hB1.size
      simp only at *
      have XS := Box3.new ws (.int .i64 P) (.int .i64 T) (.bool O) 25
      go_wp2_with fail
      refine (HI.out _ _ own1).mono ?_
      rintro e wi ⟨rfl, hb1⟩
      have hB1 : Below w.heap.size w wi := (by refine Below.trans ?_ (hb1.mono (by first | exact Nat.le_refl _ | omega | (simp; done) | (simp; omega))); repeat (first | exact Below.refl _ _ | assumption | refine Below.drew ?_ | refine belowDrewN ?_ _ | refine Below.alloc ?_ (by first | exact Nat.le_refl _ | omega | (simp; done) | (simp; omega)) _ | refine Below.setCell ?_ (by first | exact Nat.le_refl _ | omega | (simp; done) | (simp; omega)) _)); have hzwi := hB1.size; have XS := Box3.below (by first | exact XS | exact XS.alloc _) hb1 (by first | exact XS.size | (have := XS.size; simp; omega)); have XS_0 := XS.c0; have XS_1 := XS.c1; have XS_2 := XS.c2; have XS_s := XS.size
      have XI := Box3.new wi (.int .i64 P) (.int .i64 T) (.bool O) 25
      clear own own1
      go_wp2_with fail
      have own0 : ((wi.alloc (.cells #[.int .i64 P, .int .i64 T, .bool O] 25)).alloc (.cells #[] 3)).ownsRow w.heap.size 3 1 (.slice (some ⟨wi.heap.size + 1, 0, none⟩) 0 0) 0 ((far n 0).map (Value.int .i64)) := by
        have := World.ownsRow_lit (base := w.heap.size) (e := 3) (size := 1) (wi.alloc (.cells #[.int .i64 P, .int .i64 T, .bool O] 25)) #[] 0 (by simp; omega) (by simp [maxLen]) rfl
        rw [World.size_alloc] at this
        exact this
      have hB2 : Below w.heap.size w ((wi.alloc (.cells #[.int .i64 P, .int .i64 T, .bool O] 25)).alloc (.cells #[] 3)) := by repeat (first | exact Below.refl _ _ | assumption | refine Below.drew ?_ | refine belowDrewN ?_ _ | refine Below.alloc ?_ (by first | exact Nat.le_refl _ | omega | (simp; done) | (simp; omega)) _ | refine Below.setCell ?_ (by first | exact Nat.le_refl _ | omega | (simp; done) | (simp; omega)) _)
      go_loopg [10, 11] 8 (fun g v t wr => ∃ k : Nat, t = .int .i64 ((n + 16 * k : Nat) : Int) ∧ k + g = 8 ∧ n + 16 * k ≤ 115 ∧ wr.ownsRow w.heap.size 3 1 v k ((far n k).map (Value.int .i64)) ∧ Below w.heap.size w wr)
      case atStart => exact ⟨0, by simp, by omega, by omega, own0, hB2⟩
      case round =>
        obtain ⟨k, rfl, hk, hnk, own, hB⟩ := hrel
        have hszr := hB.size
        clear own0 hB2
        by_cases ht : n + 16 * k ≤ 99
        · have ht2 : ((n + 16 * k : Nat) : Int) ≤ 99 := by omega
          have hnext : (((n + 16 * k : Nat) : Int) + 16) = ((n + 16 * (k + 1) : Nat) : Int) := by omega
          have own2 := fun (x : Value) => own.alloc (.cells #[x] 3)
          obtain ⟨t, htt⟩ : ∃ t : Int, ((n + 16 * k : Nat) : Int) = t := ⟨_, rfl⟩
          rw [htt] at ht2 hnext ⊢
          have hfs := far_succ n k
          rw [htt] at hfs
          have t0 : 0 ≤ t := by omega
          have HT := Lib.hid htt
          have HN := Lib.hid hnext
          clear htt hnext
          go_wp2_with (at_builtin; go_loud (refine wpList_append_own _ rfl (.tmp 50) (.tmp 52) 39 rfl w.heap.size 3 i0 (.int .i64 0) 1 8 Try.underlying39 hi hz0 hz1 hz2 rfl (by decide) _ k _ rfl (own.alloc _) ⟨wr.heap.size, 0, none⟩ 1 1 [.int .i64 t] rfl rfl (cell_one_new _ _ _) (by intro u hu; simp at hu; subst hu; rfl) (by unfold maxLen; omega) (by omega) (by simp; omega) ?_); intro v' w5 hown5 hgrow5 _)
          have hw5 : Below w.heap.size wr w5 := Below.grown ((Below.refl _ _).alloc (by omega) _) hgrow5 (by simp; omega) (fun b hb => (own.lt b hb).1)
          go_roundg (gk - 1)
          case measure => omega
          case rel => exact ⟨k + 1, by rw [HN.out], by omega, by omega, by rw [hfs]; simpa using hown5, hB.trans hw5⟩
        · have ht2 : ¬ ((n + 16 * k : Nat) : Int) ≤ 99 := by omega
          obtain ⟨t, htt⟩ : ∃ t : Int, ((n + 16 * k : Nat) : Int) = t := ⟨_, rfl⟩
          rw [htt] at ht2 ⊢
          obtain ⟨P', T', hP', hplay⟩ := far_owned wr hn9 (k := k) (by omega) hnk own
          have HP := Lib.hid hplay
          clear hplay htt
          go_wp2_with fail
          refine (HP.out).mono ?_
          rintro e wx ⟨rfl, hb1⟩
          have hB1 : Below w.heap.size w wx := (by refine Below.trans ?_ (hb1.mono (by first | exact Nat.le_refl _ | omega | (simp; done) | (simp; omega))); repeat (first | exact Below.refl _ _ | assumption | refine Below.drew ?_ | refine belowDrewN ?_ _ | refine Below.alloc ?_ (by first | exact Nat.le_refl _ | omega | (simp; done) | (simp; omega)) _ | refine Below.setCell ?_ (by first | exact Nat.le_refl _ | omega | (simp; done) | (simp; omega)) _)); have hzwx := hB1.size
          have X2 := Box3.new wx (.int .i64 P') (.int .i64 T') (.bool false) 25
          go_wp2_with fail
          go_ret
          exact ⟨rfl, by repeat (first | exact Below.refl _ _ | assumption | refine Below.drew ?_ | refine belowDrewN ?_ _ | refine Below.alloc ?_ (by first | exact Nat.le_refl _ | omega | (simp; done) | (simp; omega)) _ | refine Below.setCell ?_ (by first | exact Nat.le_refl _ | omega | (simp; done) | (simp; omega)) _)⟩
end Go.Proofs.Ytbjonkjigfnnnaa
