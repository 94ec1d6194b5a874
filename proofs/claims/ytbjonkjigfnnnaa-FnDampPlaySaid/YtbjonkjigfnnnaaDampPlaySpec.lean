/- The reference's DampPlay: 'playD'. -/
import Derived.Test.YtbjonkjigfnnnaaDampPlay
import Derived.Deep.RegionHeld3
import Derived.BigQuiet
import Derived.Deep.DeepCutAuto
import Derived.Deep.QuietTactic
namespace Go.Proofs.Ytbjonkjigfnnnaa
open Go.RowKit
set_option linter.unusedVariables false

set_option maxHeartbeats 2000000 in
theorem specPlay_some (b off len cap : Nat) (zs : List Int) (w : World) (hl0 : 0 < len) (hlz : len ≤ zs.length) (hlen : len ≤ maxLen) (hb : b < w.heap.size)
    (hcell : Hid (∀ i, i < len → w.cell? ⟨b, off + i, none⟩ = some (.int .i64 (zs.getD i 0)))) :
    Calls Try.prog 32 #[.slice (some ⟨b, off, none⟩) len cap] w (NowPost (playD (zs.take len)).1.1 (playD (zs.take len)).1.2.1 (playD (zs.take len)).1.2.2 (playD (zs.take len)).2 w) := by
  unfold maxLen at hlen
  have B0 := ((Box3.new w (.int .i64 0) (.int .i64 0) (.bool false) 25).alloc (.cells #[.int .i64 0, .int .i64 0, .bool false] 25))
  have B1 := Box3.new (w.alloc (.cells #[.int .i64 0, .int .i64 0, .bool false] 25)) (.int .i64 0) (.int .i64 0) (.bool false) 25
  simp only [World.size_alloc] at B1
  obtain ⟨R, hR⟩ : ∃ R, playD (zs.take len) = R := ⟨_, rfl⟩
  rw [hR]
  have HR := Lib.hid hR
  clear hR
  go_enter Try.func32, Try.ntmps32
  go_wp2_with fail
  go_loopg [5] len (fun g i wr => ∃ (k : Nat) (d : Pain), i = .int .i64 k ∧ k + g = len ∧ playFrom d (prevAt zs k) ((zs.take len).drop k) = playFrom zeroD none (zs.take len) ∧
    Box3 wr w.heap.size (.int .i64 0) (.int .i64 0) (.bool false) ∧ Box3 wr (w.heap.size + 1) (.int .i64 d.1) (.int .i64 d.2.1) (.bool d.2.2) ∧ Below w.heap.size w wr)
  case atStart => exact ⟨0, zeroD, rfl, by omega, rfl, B0, B1, by repeat (first | exact Below.refl _ _ | assumption | refine Below.drew ?_ | refine belowDrewN ?_ _ | refine Below.alloc ?_ (by first | exact Nat.le_refl _ | omega | (simp; done) | (simp; omega)) _ | refine Below.setCell ?_ (by first | exact Nat.le_refl _ | omega | (simp; done) | (simp; omega)) _)⟩
  case round =>
    obtain ⟨k, ⟨P, T, O⟩, rfl, hk, hplay, X, Y, hbel⟩ := hrel
    have HP := Lib.hid hplay
    clear hplay B0 B1
    have r0 := X.c0
    have r1 := X.c1
    have r2 := X.c2
    have g0 := X.f0
    have g1 := X.f1
    have g2 := X.f2
    have s0 := Y.c0
    have s1 := Y.c1
    have s2 := Y.c2
    have t0 := Y.f0
    have t1 := Y.f1
    have t2 := Y.f2
    simp only at s0 s1 s2
    have hszr := hbel.size
    by_cases hg : gk = 0
    · subst hg
      obtain rfl : k = len := by omega
      have e := HP.out
      rw [List.drop_of_length_le (by simp; omega), playFrom_nil] at e
      have e2 := HR.out
      rw [playD_some e.symm] at e2
      subst e2
      clear e
      go_wp2_with fail
      have hd : decide (k ≤ 30) = decide ((k : Int) ≤ 30) := by rw [decide_eq_decide]; omega
      simp only [hd]
      have Z := (X).stores (.int .i64 (P)) (.int .i64 (T)) (.bool (O))
      have z0 := Z.c0
      have z1 := Z.c1
      have z2 := Z.c2
      refine bodyPost_ret (v := .tuple #[.agg #[.int .i64 (P), .int .i64 (T), .bool (O)], .bool (decide ((k : Int) ≤ 30))]) (by simp [results, Try.results32, go_sem, z0, z1, z2]) rfl ?_
      exact ⟨rfl, by repeat (first | exact Below.refl _ _ | assumption | refine Below.drew ?_ | refine belowDrewN ?_ _ | refine Below.alloc ?_ (by first | exact Nat.le_refl _ | omega | (simp; done) | (simp; omega)) _ | refine Below.setCell ?_ (by first | exact Nat.le_refl _ | omega | (simp; done) | (simp; omega)) _)⟩
    · have hkl : k < len := by omega
      have hx : wr.cell? ⟨b, off + k, none⟩ = some (.int .i64 (zs.getD k 0)) := (hbel.cell (p := ⟨b, off + k, none⟩) hb).trans (hcell.out k hkl)
      have hdrop := drop_take zs len k hlz hkl
      obtain ⟨n, hn⟩ : ∃ n, zs.getD k 0 = n := ⟨_, rfl⟩
      rw [hn] at hx hdrop
      have HD := Lib.hid hdrop
      have HN := Lib.hid hn
      clear hdrop hn
      have hf := fun w => specFlap_any P T O n w
      obtain ⟨⟨P', T', O'⟩, hD'⟩ : ∃ D' : Pain, flapD (P, T, O) n = D' := ⟨_, rfl⟩
      obtain ⟨ok, hok⟩ : ∃ ok, okD (P, T, O) n = ok := ⟨_, rfl⟩
      rw [show flapP P T O n = P' from congrArg (·.1) hD', show nowT P T O n = T' from congrArg (·.2.1) hD', show flapO P T O n = O' from congrArg (·.2.2) hD', show okNow P T O n = ok from hok] at hf
      have HF := Lib.hid hf
      have HD' := Lib.hid hD'
      have HOK := Lib.hid hok
      clear hf hD' hok
      have hxz := X.size
      have hyz := Y.size
      have hbw : b < wr.heap.size := by omega
      go_upto_region 5 with fail
      go_cut [6, 7] (fun s6 s7 wx => ∃ g : Nat, s6 = .pointer (some ⟨g, 0, none⟩) ∧ s7 = .bool ok ∧ Box3 wx g (.int .i64 P') (.int .i64 T') (.bool O') ∧ Box3 wx w.heap.size (.int .i64 0) (.int .i64 0) (.bool false) ∧ Box3 wx (w.heap.size + 1) (.int .i64 P) (.int .i64 T) (.bool O) ∧ Below w.heap.size w wx ∧ w.heap.size + 1 < g)
      case first =>
        go_region_held3 (fun w' => w'.cell? ⟨w.heap.size + 1, 0, none⟩ = some (.int .i64 P) ∧ w'.cell? ⟨w.heap.size + 1, 1, none⟩ = some (.int .i64 T) ∧ w'.cell? ⟨w.heap.size + 1, 2, none⟩ = some (.bool O) ∧ w'.cell? ⟨b, off + k, none⟩ = some (.int .i64 n)) ((simp [go_sem, *])) (first | (go_at_call 29; refine (HF.out _).mono ?_; rintro e w1 ⟨rfl, hb1⟩; have hB1 : Below w.heap.size w w1 := (by refine Below.trans ?_ (hb1.mono (by first | exact Nat.le_refl _ | omega | (simp; done) | (simp; omega))); repeat (first | exact Below.refl _ _ | assumption | refine Below.drew ?_ | refine belowDrewN ?_ _ | refine Below.alloc ?_ (by first | exact Nat.le_refl _ | omega | (simp; done) | (simp; omega)) _ | refine Below.setCell ?_ (by first | exact Nat.le_refl _ | omega | (simp; done) | (simp; omega)) _)); have X1 := Box3.below (by first | exact X.drew | exact (X.alloc _).drew) hb1 (by first | exact Nat.le_refl _ | omega | (simp; done) | (simp; omega)); have Y1 := Box3.below (by first | exact Y.drew | exact (Y.alloc _).drew) hb1 (by first | exact Nat.le_refl _ | omega | (simp; done) | (simp; omega)); have hs1 := hb1.size; have hxl := X1.size; have hyl := Y1.size; have p6 := Y1.c0; have p7 := Y1.c1; have p8 := Y1.c2; have hx1 : w1.cell? ⟨b, off + k, none⟩ = some (.int .i64 n) := (hb1.cell (p := ⟨b, off + k, none⟩) (by first | exact Nat.le_refl _ | omega | (simp; done) | (simp; omega))).trans (by first | exact hx | simp [go_sem, *]); have hbl : b < w1.heap.size := (by (simp at hs1; omega)); try (have V1 := Box3.below ((Box3.new wr (.int .i64 0) (.int .i64 0) (.bool false) 25).drew) hb1 (by first | exact Nat.le_refl _ | omega | (simp; done) | (simp; omega)); have v0 := V1.c0; have v1 := V1.c1; have v2 := V1.c2; have v3 := V1.f0; have v4 := V1.f1; have v5 := V1.f2)))
        all_goals
          go_wp2_with fail
          go_meet
          first
            | exact ⟨w1.heap.size, rfl, rfl, Box3.new _ _ _ _ _, X1.alloc _, Y1.alloc _, by repeat (first | exact Below.refl _ _ | assumption | refine Below.drew ?_ | refine belowDrewN ?_ _ | refine Below.alloc ?_ (by first | exact Nat.le_refl _ | omega | (simp; done) | (simp; omega)) _ | refine Below.setCell ?_ (by first | exact Nat.le_refl _ | omega | (simp; done) | (simp; omega)) _), by omega⟩
            | exact ⟨wr.heap.size, rfl, rfl, V1.stores _ _ _, ((X1.off (by simp; omega) _).off (by simp; omega) _).off (by simp; omega) _, ((Y1.off (by simp; omega) _).off (by simp; omega) _).off (by simp; omega) _, by repeat (first | exact Below.refl _ _ | assumption | refine Below.drew ?_ | refine belowDrewN ?_ _ | refine Below.alloc ?_ (by first | exact Nat.le_refl _ | omega | (simp; done) | (simp; omega)) _ | refine Below.setCell ?_ (by first | exact Nat.le_refl _ | omega | (simp; done) | (simp; omega)) _), by omega⟩
      case rest =>
        obtain ⟨g, rfl, rfl, V1, X1, Y1, hB1, hg1⟩ := hcut
        have hxk : wc.cell? ⟨b, off + k, none⟩ = some (.int .i64 n) := (hB1.cell (p := ⟨b, off + k, none⟩) hb).trans ((hbel.cell (p := ⟨b, off + k, none⟩) hb).symm.trans hx)
        have hszc := X1.size
        clear hx X Y r0 r1 r2 g0 g1 g2 s0 s1 s2 t0 t1 t2 hxz hyz hbw
        have r0 := X1.c0
        have r1 := X1.c1
        have r2 := X1.c2
        have g0 := X1.f0
        have g1 := X1.f1
        have g2 := X1.f2
        have s0 := Y1.c0
        have s1 := Y1.c1
        have s2 := Y1.c2
        have t0 := Y1.f0
        have t1 := Y1.f1
        have t2 := Y1.f2
        have v0 := V1.c0
        have v1 := V1.c1
        have v2 := V1.c2
        cases ok
        · have e := HP.out
          rw [HD.out, playFrom_bad (by rw [HOK.out]; rfl)] at e
          have e2 := HR.out
          rw [playD_none e.symm] at e2
          subst e2
          clear e
          go_wp2_with fail
          go_quiet (fail)
          go_wp2_with fail
          have Z := ((X1.drewN nq).stores (.int .i64 0) (.int .i64 0) (.bool false))
          have z0 := Z.c0
          have z1 := Z.c1
          have z2 := Z.c2
          refine bodyPost_ret (v := .tuple #[.agg #[.int .i64 (0), .int .i64 (0), .bool (false)], .bool false]) (by simp [results, Try.results32, go_sem, z0, z1, z2]) rfl ?_
          exact ⟨rfl, by repeat (first | exact Below.refl _ _ | assumption | refine Below.drew ?_ | refine belowDrewN ?_ _ | refine Below.alloc ?_ (by first | exact Nat.le_refl _ | omega | (simp; done) | (simp; omega)) _ | refine Below.setCell ?_ (by first | exact Nat.le_refl _ | omega | (simp; done) | (simp; omega)) _)⟩
        · by_cases hk0 : k = 0
          · have HE : Hid (early (prevAt zs k) n = false) := by unfold Hid prevAt early; rw [if_pos hk0]
            have hk1 : decide (0 < k) = false := by simp; omega
            have HK0 := Lib.hid hk0
            clear hk0
            go_wp2_with fail
            go_quiet (fail)
            go_wp2_with fail
            go_roundg (gk - 1)
            case measure => omega
            case rel =>
              refine ⟨k + 1, (P', T', O'), by go_num, by omega, ?_, (((X1.drewN _).off (by simp) _).off (by simp) _).off (by simp) _, (Y1.drewN _).stores _ _ _, by repeat (first | exact Below.refl _ _ | assumption | refine Below.drew ?_ | refine belowDrewN ?_ _ | refine Below.alloc ?_ (by first | exact Nat.le_refl _ | omega | (simp; done) | (simp; omega)) _ | refine Below.setCell ?_ (by first | exact Nat.le_refl _ | omega | (simp; done) | (simp; omega)) _)⟩
              have e := HP.out
              rw [HD.out, playFrom_good (by rw [HOK.out, HE.out]; rfl), HD'.out] at e
              rw [← e, prevAt_succ, HN.out]
          · obtain ⟨j, hj⟩ : ∃ j, j + 1 = k := ⟨k - 1, by omega⟩
            have hjk : k - 1 = j := by omega
            have hxm : wc.cell? ⟨b, off + j, none⟩ = some (.int .i64 (zs.getD j 0)) := (hB1.cell (p := ⟨b, off + j, none⟩) hb).trans (hcell.out j (by omega))
            obtain ⟨m, hm⟩ : ∃ m, zs.getD j 0 = m := ⟨_, rfl⟩
            rw [hm] at hxm
            have HM : Hid (prevAt zs k = some m) := by unfold Hid prevAt; rw [if_neg hk0, hjk, hm]
            have hk1 : decide (0 < k) = true := by simp; omega
            have hjl : (j : Int) < (len : Int) := by omega
            have w1 : IntKind.i64.wrap ((k : Int) - 1) = (j : Int) := by rw [show (k : Int) - 1 = (j : Int) from by omega]; exact IntWalk.i64_in _ (by omega)
            clear hm hjk hj hk0
            by_cases hnm : n < m
            · have e := HP.out
              rw [HD.out, playFrom_bad (by rw [HM.out]; simp [early, hnm])] at e
              have e2 := HR.out
              rw [playD_none e.symm] at e2
              subst e2
              clear e
              go_wp2_with fail
              go_quiet (fail)
              go_wp2_with fail
              have Z := ((X1.drewN nq).stores (.int .i64 0) (.int .i64 0) (.bool false))
              have z0 := Z.c0
              have z1 := Z.c1
              have z2 := Z.c2
              refine bodyPost_ret (v := .tuple #[.agg #[.int .i64 (0), .int .i64 (0), .bool (false)], .bool false]) (by simp [results, Try.results32, go_sem, z0, z1, z2]) rfl ?_
              exact ⟨rfl, by repeat (first | exact Below.refl _ _ | assumption | refine Below.drew ?_ | refine belowDrewN ?_ _ | refine Below.alloc ?_ (by first | exact Nat.le_refl _ | omega | (simp; done) | (simp; omega)) _ | refine Below.setCell ?_ (by first | exact Nat.le_refl _ | omega | (simp; done) | (simp; omega)) _)⟩
            · have HE : Hid (early (prevAt zs k) n = false) := by unfold Hid; rw [HM.out]; simp [early]; omega
              have hnm2 : decide (n < m) = false := by simp; omega
              go_wp2_with fail
              go_quiet (fail)
              go_wp2_with fail
              go_roundg (gk - 1)
              case measure => omega
              case rel =>
                refine ⟨k + 1, (P', T', O'), by go_num, by omega, ?_, (((X1.drewN _).off (by simp) _).off (by simp) _).off (by simp) _, (Y1.drewN _).stores _ _ _, by repeat (first | exact Below.refl _ _ | assumption | refine Below.drew ?_ | refine belowDrewN ?_ _ | refine Below.alloc ?_ (by first | exact Nat.le_refl _ | omega | (simp; done) | (simp; omega)) _ | refine Below.setCell ?_ (by first | exact Nat.le_refl _ | omega | (simp; done) | (simp; omega)) _)⟩
                have e := HP.out
                rw [HD.out, playFrom_good (by rw [HOK.out, HE.out]; rfl), HD'.out] at e
                rw [← e, prevAt_succ, HN.out]

set_option maxHeartbeats 1000000 in
theorem specPlay_none (a : Option Addr) (cap : Nat) (zs : List Int) (w : World) :
    Calls Try.prog 32 #[.slice a 0 cap] w (NowPost (playD (zs.take 0)).1.1 (playD (zs.take 0)).1.2.1 (playD (zs.take 0)).1.2.2 (playD (zs.take 0)).2 w) := by
  have B0 := ((Box3.new w (.int .i64 0) (.int .i64 0) (.bool false) 25).alloc (.cells #[.int .i64 0, .int .i64 0, .bool false] 25))
  show Calls Try.prog 32 #[.slice a 0 cap] w (NowPost 0 0 false true w)
  go_enter Try.func32, Try.ntmps32
  go_wp2_with fail
  go_loopg [5] 1 (fun g i wr => i = .int .i64 0 ∧ wr = ((w.alloc (.cells #[.int .i64 0, .int .i64 0, .bool false] 25)).alloc (.cells #[.int .i64 0, .int .i64 0, .bool false] 25)))
  case atStart => exact ⟨rfl, rfl⟩
  case round =>
    obtain ⟨rfl, rfl⟩ := hrel
    go_wp2_with fail
    have Z := B0
    have z0 := Z.c0
    have z1 := Z.c1
    have z2 := Z.c2
    refine bodyPost_ret (v := .tuple #[.agg #[.int .i64 (0), .int .i64 (0), .bool (false)], .bool true]) (by simp [results, Try.results32, go_sem, z0, z1, z2]) rfl ?_
    exact ⟨rfl, by repeat (first | exact Below.refl _ _ | assumption | refine Below.drew ?_ | refine belowDrewN ?_ _ | refine Below.alloc ?_ (by first | exact Nat.le_refl _ | omega | (simp; done) | (simp; omega)) _ | refine Below.setCell ?_ (by first | exact Nat.le_refl _ | omega | (simp; done) | (simp; omega)) _)⟩

theorem specPlay_any (a : Option Addr) (len cap : Nat) (zs : List Int) (w : World) (h : IsRow .i64 w a len cap zs) :
    Calls Try.prog 32 #[.slice a len cap] w (NowPost (playD (zs.take len)).1.1 (playD (zs.take len)).1.2.1 (playD (zs.take len)).1.2.2 (playD (zs.take len)).2 w) := by
  by_cases hl : 0 < len
  · obtain ⟨hm, hc⟩ := h.bounds
    obtain ⟨b, off, rfl, hcell, hb, hlz⟩ := h.at hl
    exact specPlay_some b off len cap zs w hl hlz (by omega) hb hcell
  · obtain rfl : len = 0 := by omega
    exact specPlay_none a cap zs w

/-- A slice of integers that the caller itself has made. -/
theorem owned_ints {w : World} {B : Nat} {v : Value} {l : List Int} (h : w.ownsRow B 3 1 v l.length (l.map (Value.int .i64))) :
    (v = .slice none 0 0 ∧ l = []) ∨ ∃ g cap, v = .slice (some ⟨g, 0, none⟩) l.length cap ∧ B ≤ g ∧ g < w.heap.size ∧ l.length ≤ maxLen ∧ ∀ i, i < l.length → w.cell? ⟨g, 0 + i, none⟩ = some (.int .i64 (l.getD i 0)) := by
  rcases h.2 with ⟨rfl, hn⟩ | ⟨g, cap, cur, rfl, hb, hg, hnc, hcm, hcs, htake⟩
  · exact .inl ⟨rfl, List.length_eq_zero_iff.mp hn⟩
  · refine .inr ⟨g, cap, rfl, hb, ?_, by omega, fun i hi => ?_⟩
    · by_cases hlt : g < w.heap.size
      · exact hlt
      · rw [Array.getElem?_eq_none (by omega)] at hg; simp at hg
    · rw [Nat.zero_add, h.cellAt i (by omega)]
      simp [List.getElem?_eq_getElem hi]

theorem specPlay_owned {B : Nat} {v : Value} {l : List Int} (w : World) (h : w.ownsRow B 3 1 v l.length (l.map (Value.int .i64))) :
    Calls Try.prog 32 #[v] w (NowPost (playD l).1.1 (playD l).1.2.1 (playD l).1.2.2 (playD l).2 w) := by
  rcases owned_ints h with ⟨rfl, rfl⟩ | ⟨g, cap, rfl, _, hg, hm, hc⟩
  · exact specPlay_none none 0 [] w
  · by_cases hl : 0 < l.length
    · have := specPlay_some g 0 l.length cap l w hl (Nat.le_refl _) hm hg hc
      rwa [List.take_length] at this
    · obtain rfl : l = [] := List.length_eq_zero_iff.mp (by omega)
      exact specPlay_none _ cap [] w

theorem implPlay_owned {B : Nat} {v : Value} {l : List Int} (w : World) (h : w.ownsRow B 3 1 v l.length (l.map (Value.int .i64))) :
    Calls Try.prog 34 #[v] w (NowPost (playD l).1.1 (playD l).1.2.1 (playD l).1.2.2 (playD l).2 w) := by
  rcases owned_ints h with ⟨rfl, rfl⟩ | ⟨g, cap, rfl, _, hg, hm, hc⟩
  · exact implPlay_none none 0 [] w
  · by_cases hl : 0 < l.length
    · have := implPlay_some g 0 l.length cap l w hl (Nat.le_refl _) hm hg hc
      rwa [List.take_length] at this
    · obtain rfl : l = [] := List.length_eq_zero_iff.mp (by omega)
      exact implPlay_none _ cap [] w
end Go.Proofs.Ytbjonkjigfnnnaa
