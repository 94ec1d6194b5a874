/- The program's DampPlay: 'playD'. -/
import Derived.Test.YtbjonkjigfnnnaaDampPlayPlain
namespace Go.Proofs.Ytbjonkjigfnnnaa
open Go.RowKit
set_option linter.unusedVariables false

set_option maxHeartbeats 2000000 in
theorem implPlay_some (b off len cap : Nat) (zs : List Int) (w : World) (hl0 : 0 < len) (hlz : len ≤ zs.length) (hlen : len ≤ maxLen) (hb : b < w.heap.size)
    (hcell : Hid (∀ i, i < len → w.cell? ⟨b, off + i, none⟩ = some (.int .i64 (zs.getD i 0)))) :
    Calls Try.prog 34 #[.slice (some ⟨b, off, none⟩) len cap] w (NowPost (playD (zs.take len)).1.1 (playD (zs.take len)).1.2.1 (playD (zs.take len)).1.2.2 (playD (zs.take len)).2 w) := by
  unfold maxLen at hlen
  have B0 := ((Box3.new w (.int .i64 0) (.int .i64 0) (.bool false) 25).alloc (.cells #[.int .i64 0, .int .i64 0, .bool false] 25))
  have B1 := Box3.new (w.alloc (.cells #[.int .i64 0, .int .i64 0, .bool false] 25)) (.int .i64 0) (.int .i64 0) (.bool false) 25
  simp only [World.size_alloc] at B1
  obtain ⟨R, hR⟩ : ∃ R, playD (zs.take len) = R := ⟨_, rfl⟩
  rw [hR]
  have HR := Lib.hid hR
  clear hR
  go_enter Try.func34, Try.ntmps34
  go_wp2_with fail
  go_loopg [11] len (fun g i wr => ∃ (k : Nat) (d : Pain), i = .int .i64 k ∧ k + g = len ∧ playFrom d (prevAt zs k) ((zs.take len).drop k) = playFrom zeroD none (zs.take len) ∧
    Box3 wr w.heap.size (.int .i64 0) (.int .i64 0) (.bool false) ∧ Box3 wr (w.heap.size + 1) (.int .i64 d.1) (.int .i64 d.2.1) (.bool d.2.2) ∧ Below w.heap.size w wr)
  case atStart => exact ⟨0, zeroD, rfl, by omega, rfl, B0, B1, by repeat (first | exact Below.refl _ _ | assumption | refine Below.drew ?_ | refine belowDrewN ?_ _ | refine Below.alloc ?_ (by first | exact Nat.le_refl _ | omega | (simp; done) | (simp; omega)) _ | refine Below.setCell ?_ (by first | exact Nat.le_refl _ | omega | (simp; done) | (simp; omega)) _)⟩
  case round =>
    obtain ⟨k, ⟨P, T, O⟩, rfl, hk, hplay, X, Y, hbel⟩ := hrel
    have HP := Lib.hid hplay
    clear hplay B0 B1
    have r0 := X.c0
    have r1 := X.c1
    have r2 := X.c2
    have g0 := X.f0
    have g1 := X.f1
    have g2 := X.f2
    have s0 := Y.c0
    have s1 := Y.c1
    have s2 := Y.c2
    have t0 := Y.f0
    have t1 := Y.f1
    have t2 := Y.f2
    simp only at s0 s1 s2
    have hszr := hbel.size
    by_cases hg : gk = 0
    · subst hg
      obtain rfl : k = len := by omega
      have e := HP.out
      rw [List.drop_of_length_le (by simp; omega), playFrom_nil] at e
      have e2 := HR.out
      rw [playD_some e.symm] at e2
      subst e2
      clear e
      go_wp2_with fail
      have hd : decide (k ≤ 30) = decide ((k : Int) ≤ 30) := by rw [decide_eq_decide]; omega
      simp only [hd]
      have Z := (X).stores (.int .i64 (P)) (.int .i64 (T)) (.bool (O))
      have z0 := Z.c0
      have z1 := Z.c1
      have z2 := Z.c2
      refine bodyPost_ret (v := .tuple #[.agg #[.int .i64 (P), .int .i64 (T), .bool (O)], .bool (decide ((k : Int) ≤ 30))]) (by simp [results, Try.results34, go_sem, z0, z1, z2]) rfl ?_
      exact ⟨rfl, by repeat (first | exact Below.refl _ _ | assumption | refine Below.drew ?_ | refine belowDrewN ?_ _ | refine Below.alloc ?_ (by first | exact Nat.le_refl _ | omega | (simp; done) | (simp; omega)) _ | refine Below.setCell ?_ (by first | exact Nat.le_refl _ | omega | (simp; done) | (simp; omega)) _)⟩
    · have hkl : k < len := by omega
      have hx : wr.cell? ⟨b, off + k, none⟩ = some (.int .i64 (zs.getD k 0)) := (hbel.cell (p := ⟨b, off + k, none⟩) hb).trans (hcell.out k hkl)
      have hdrop := drop_take zs len k hlz hkl
      obtain ⟨n, hn⟩ : ∃ n, zs.getD k 0 = n := ⟨_, rfl⟩
      rw [hn] at hx hdrop
      have HD := Lib.hid hdrop
      have HN := Lib.hid hn
      clear hdrop hn
      have hf := implFlap_any P T O n wr
      obtain ⟨⟨P', T', O'⟩, hD'⟩ : ∃ D' : Pain, flapD (P, T, O) n = D' := ⟨_, rfl⟩
      obtain ⟨ok, hok⟩ : ∃ ok, okD (P, T, O) n = ok := ⟨_, rfl⟩
      rw [show flapP P T O n = P' from congrArg (·.1) hD', show nowT P T O n = T' from congrArg (·.2.1) hD', show flapO P T O n = O' from congrArg (·.2.2) hD', show okNow P T O n = ok from hok] at hf
      have HF := Lib.hid hf
      have HD' := Lib.hid hD'
      have HOK := Lib.hid hok
      clear hf hD' hok
      cases ok
      · have e := HP.out
        rw [HD.out, playFrom_bad (by rw [HOK.out]; rfl)] at e
        have e2 := HR.out
        rw [playD_none e.symm] at e2
        subst e2
        clear e
        go_wp2_with fail
        refine (HF.out).mono ?_
        rintro e w1 ⟨rfl, hb1⟩
        have hB1 : Below w.heap.size w w1 := hbel.trans (hb1.mono (by omega))
        have X1 := X.below hb1 (by have := lt_of_cell X.c0; simpa using this)
        have Y1 := Y.below hb1 (by have := lt_of_cell Y.c0; simpa using this)
        have hs1 := hb1.size
        have hxl := lt_of_cell X1.c0
        have hyl := lt_of_cell Y1.c0
        simp only at hxl hyl
        have r0 := X1.c0
        have r1 := X1.c1
        have r2 := X1.c2
        have g0 := X1.f0
        have g1 := X1.f1
        have g2 := X1.f2
        go_wp2_with fail
        have Z := (X1.stores (.int .i64 0) (.int .i64 0) (.bool false)).alloc (.cells #[.int .i64 P', .int .i64 T', .bool O'] 25)
        have z0 := Z.c0
        have z1 := Z.c1
        have z2 := Z.c2
        refine bodyPost_ret (v := .tuple #[.agg #[.int .i64 (0), .int .i64 (0), .bool (false)], .bool false]) (by simp [results, Try.results34, go_sem, z0, z1, z2]) rfl ?_
        exact ⟨rfl, by repeat (first | exact Below.refl _ _ | assumption | refine Below.drew ?_ | refine belowDrewN ?_ _ | refine Below.alloc ?_ (by first | exact Nat.le_refl _ | omega | (simp; done) | (simp; omega)) _ | refine Below.setCell ?_ (by first | exact Nat.le_refl _ | omega | (simp; done) | (simp; omega)) _)⟩
      · by_cases hk0 : k = 0
        · have HE : Hid (early (prevAt zs k) n = false) := by unfold Hid prevAt early; rw [if_pos hk0]
          have hk1 : decide (0 < k) = false := by simp; omega
          have HK0 := Lib.hid hk0
          clear hk0
          go_wp2_with fail
          refine (HF.out).mono ?_
          rintro e w1 ⟨rfl, hb1⟩
          have hB1 : Below w.heap.size w w1 := hbel.trans (hb1.mono (by omega))
          have X1 := X.below hb1 (by have := lt_of_cell X.c0; simpa using this)
          have Y1 := Y.below hb1 (by have := lt_of_cell Y.c0; simpa using this)
          have hs1 := hb1.size
          have hxl := lt_of_cell X1.c0
          have hyl := lt_of_cell Y1.c0
          simp only at hxl hyl
          have r0 := X1.c0
          have r1 := X1.c1
          have r2 := X1.c2
          have g0 := X1.f0
          have g1 := X1.f1
          have g2 := X1.f2
          have s0 := Y1.c0
          have s1 := Y1.c1
          have s2 := Y1.c2
          have t0 := Y1.f0
          have t1 := Y1.f1
          have t2 := Y1.f2
          go_wp2_with fail
          go_roundg (gk - 1)
          case measure => omega
          case rel =>
            refine ⟨k + 1, (P', T', O'), by go_num, by omega, ?_, ((X1.off (by simp) _).off (by simp) _ |>.off (by simp) _).alloc _, (Y1.stores _ _ _).alloc _, by repeat (first | exact Below.refl _ _ | assumption | refine Below.drew ?_ | refine belowDrewN ?_ _ | refine Below.alloc ?_ (by first | exact Nat.le_refl _ | omega | (simp; done) | (simp; omega)) _ | refine Below.setCell ?_ (by first | exact Nat.le_refl _ | omega | (simp; done) | (simp; omega)) _)⟩
            have e := HP.out
            rw [HD.out, playFrom_good (by rw [HOK.out, HE.out]; rfl), HD'.out] at e
            rw [← e, prevAt_succ, HN.out]
        · have hxm : wr.cell? ⟨b, off + (k - 1), none⟩ = some (.int .i64 (zs.getD (k - 1) 0)) := (hbel.cell (p := ⟨b, off + (k - 1), none⟩) hb).trans (hcell.out (k - 1) (by omega))
          obtain ⟨m, hm⟩ : ∃ m, zs.getD (k - 1) 0 = m := ⟨_, rfl⟩
          rw [hm] at hxm
          have HM : Hid (prevAt zs k = some m) := by unfold Hid prevAt; rw [if_neg hk0, hm]
          clear hm
          have hk2 : 1 ≤ k := by omega
          have HK0 := Lib.hid hk0
          clear hk0
          by_cases hnm : n < m
          · have e := HP.out
            rw [HD.out, playFrom_bad (by rw [HM.out]; simp [early, hnm])] at e
            have e2 := HR.out
            rw [playD_none e.symm] at e2
            subst e2
            clear e
            go_wp2_with fail
            refine (HF.out).mono ?_
            rintro e w1 ⟨rfl, hb1⟩
            have hB1 : Below w.heap.size w w1 := hbel.trans (hb1.mono (by omega))
            have X1 := X.below hb1 (by have := lt_of_cell X.c0; simpa using this)
            have Y1 := Y.below hb1 (by have := lt_of_cell Y.c0; simpa using this)
            have hs1 := hb1.size
            have hxl := lt_of_cell X1.c0
            have hyl := lt_of_cell Y1.c0
            simp only at hxl hyl
            have r0 := X1.c0
            have r1 := X1.c1
            have r2 := X1.c2
            have g0 := X1.f0
            have g1 := X1.f1
            have g2 := X1.f2
            have s0 := Y1.c0
            have s1 := Y1.c1
            have s2 := Y1.c2
            have t0 := Y1.f0
            have t1 := Y1.f1
            have t2 := Y1.f2
            have hbl : b < w1.heap.size := by omega
            have hxm1 : w1.cell? ⟨b, off + (k - 1), none⟩ = some (.int .i64 m) := (hb1.cell (p := ⟨b, off + (k - 1), none⟩) (by simp; omega)).trans hxm
            go_wp2_with fail
            have Z := (X1.stores (.int .i64 0) (.int .i64 0) (.bool false)).alloc (.cells #[.int .i64 P', .int .i64 T', .bool O'] 25)
            have z0 := Z.c0
            have z1 := Z.c1
            have z2 := Z.c2
            refine bodyPost_ret (v := .tuple #[.agg #[.int .i64 (0), .int .i64 (0), .bool (false)], .bool false]) (by simp [results, Try.results34, go_sem, z0, z1, z2]) rfl ?_
            exact ⟨rfl, by repeat (first | exact Below.refl _ _ | assumption | refine Below.drew ?_ | refine belowDrewN ?_ _ | refine Below.alloc ?_ (by first | exact Nat.le_refl _ | omega | (simp; done) | (simp; omega)) _ | refine Below.setCell ?_ (by first | exact Nat.le_refl _ | omega | (simp; done) | (simp; omega)) _)⟩
          · have HE : Hid (early (prevAt zs k) n = false) := by unfold Hid; rw [HM.out]; simp [early]; omega
            have hnm2 : decide (n < m) = false := by simp; omega
            go_wp2_with fail
            refine (HF.out).mono ?_
            rintro e w1 ⟨rfl, hb1⟩
            have hB1 : Below w.heap.size w w1 := hbel.trans (hb1.mono (by omega))
            have X1 := X.below hb1 (by have := lt_of_cell X.c0; simpa using this)
            have Y1 := Y.below hb1 (by have := lt_of_cell Y.c0; simpa using this)
            have hs1 := hb1.size
            have hxl := lt_of_cell X1.c0
            have hyl := lt_of_cell Y1.c0
            simp only at hxl hyl
            have r0 := X1.c0
            have r1 := X1.c1
            have r2 := X1.c2
            have g0 := X1.f0
            have g1 := X1.f1
            have g2 := X1.f2
            have s0 := Y1.c0
            have s1 := Y1.c1
            have s2 := Y1.c2
            have t0 := Y1.f0
            have t1 := Y1.f1
            have t2 := Y1.f2
            have hbl : b < w1.heap.size := by omega
            have hxm1 : w1.cell? ⟨b, off + (k - 1), none⟩ = some (.int .i64 m) := (hb1.cell (p := ⟨b, off + (k - 1), none⟩) (by simp; omega)).trans hxm
            go_wp2_with fail
            go_roundg (gk - 1)
            case measure => omega
            case rel =>
              refine ⟨k + 1, (P', T', O'), by go_num, by omega, ?_, ((X1.off (by simp) _).off (by simp) _ |>.off (by simp) _).alloc _, (Y1.stores _ _ _).alloc _, by repeat (first | exact Below.refl _ _ | assumption | refine Below.drew ?_ | refine belowDrewN ?_ _ | refine Below.alloc ?_ (by first | exact Nat.le_refl _ | omega | (simp; done) | (simp; omega)) _ | refine Below.setCell ?_ (by first | exact Nat.le_refl _ | omega | (simp; done) | (simp; omega)) _)⟩
              have e := HP.out
              rw [HD.out, playFrom_good (by rw [HOK.out, HE.out]; rfl), HD'.out] at e
              rw [← e, prevAt_succ, HN.out]

set_option maxHeartbeats 1000000 in
theorem implPlay_none (a : Option Addr) (cap : Nat) (zs : List Int) (w : World) :
    Calls Try.prog 34 #[.slice a 0 cap] w (NowPost (playD (zs.take 0)).1.1 (playD (zs.take 0)).1.2.1 (playD (zs.take 0)).1.2.2 (playD (zs.take 0)).2 w) := by
  have B0 := ((Box3.new w (.int .i64 0) (.int .i64 0) (.bool false) 25).alloc (.cells #[.int .i64 0, .int .i64 0, .bool false] 25))
  have B1 := Box3.new (w.alloc (.cells #[.int .i64 0, .int .i64 0, .bool false] 25)) (.int .i64 0) (.int .i64 0) (.bool false) 25
  simp only [World.size_alloc] at B1
  show Calls Try.prog 34 #[.slice a 0 cap] w (NowPost 0 0 false true w)
  go_enter Try.func34, Try.ntmps34
  go_wp2_with fail
  go_loopg [11] 1 (fun g i wr => i = .int .i64 0 ∧ wr = ((w.alloc (.cells #[.int .i64 0, .int .i64 0, .bool false] 25)).alloc (.cells #[.int .i64 0, .int .i64 0, .bool false] 25)))
  case atStart => exact ⟨rfl, rfl⟩
  case round =>
    obtain ⟨rfl, rfl⟩ := hrel
    go_wp2_with fail
    have Z := B0
    have z0 := Z.c0
    have z1 := Z.c1
    have z2 := Z.c2
    refine bodyPost_ret (v := .tuple #[.agg #[.int .i64 (0), .int .i64 (0), .bool (false)], .bool true]) (by simp [results, Try.results34, go_sem, z0, z1, z2]) rfl ?_
    exact ⟨rfl, by repeat (first | exact Below.refl _ _ | assumption | refine Below.drew ?_ | refine belowDrewN ?_ _ | refine Below.alloc ?_ (by first | exact Nat.le_refl _ | omega | (simp; done) | (simp; omega)) _ | refine Below.setCell ?_ (by first | exact Nat.le_refl _ | omega | (simp; done) | (simp; omega)) _)⟩

/-- The slice in whatever memory: 'playD' of its elements. -/
theorem implPlay_any (a : Option Addr) (len cap : Nat) (zs : List Int) (w : World) (h : IsRow .i64 w a len cap zs) :
    Calls Try.prog 34 #[.slice a len cap] w (NowPost (playD (zs.take len)).1.1 (playD (zs.take len)).1.2.1 (playD (zs.take len)).1.2.2 (playD (zs.take len)).2 w) := by
  by_cases hl : 0 < len
  · obtain ⟨hm, hc⟩ := h.bounds
    obtain ⟨b, off, rfl, hcell, hb, hlz⟩ := h.at hl
    exact implPlay_some b off len cap zs w hl hlz (by omega) hb hcell
  · obtain rfl : len = 0 := by omega
    exact implPlay_none a cap zs w
end Go.Proofs.Ytbjonkjigfnnnaa
