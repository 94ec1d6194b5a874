/- spec.l91Rels. -/
import Derived.Test.YtlpibfafpljedaaGreatDoorDrawRng
namespace Go.Proofs.YtlpibfafpljedaaGreatDoor
open Go.RowKit
set_option linter.unusedVariables false

def RelsPost (k : Nat) (a : Option Addr) (len' cap : Nat) (zs : List Int) (p : Nat) (w : World) (e : Ending) (w' : World) : Prop :=
  ∃ (v : Value) (n q : Nat), e = .returned v ∧ 2 ≤ n ∧ n ≤ 5 ∧ p ≤ q ∧ q ≤ p + 100 ∧ RS k a len' cap zs w w' q v n n
set_option maxRecDepth 100000 in
set_option maxHeartbeats 8000000 in
theorem l91Rels_any (k : Nat) (a : Option Addr) (len' cap : Nat) (zs : List Int) (p : Nat) (w : World) (hp : p ≤ 90000) (hkw : k < w.heap.size) (hR : RdAt w k a len' cap zs p) :
    Calls Tryz.prog 32 #[.pointer (some ⟨k, 0, none⟩)] w (RelsPost k a len' cap zs p w) := by
  obtain ⟨i0, hi, hz0, hz1, hz2⟩ := info_parts info_intR
  obtain ⟨i2, hi2, hy0, hy1, hy2⟩ := info_parts info_r2
  have R := Lib.hid hR
  have hA := Only.refl k w
  clear hR
  unfold RelsPost
  go_enter Tryz.func32, Tryz.ntmps32
  go_wp2_with fail
  refine (pick_any 4 k a len' cap zs _ _ (by omega) (by first | exact R.out | exact (R.out).drew | exact (R.out).alloc _ | exact ((R.out).alloc _).drew | exact (R.out).drewN _) (by omega)).mono ?_
  rintro e w1 ⟨xn, rfl, xn0, xn1, hr, hO, hs⟩
  (try simp at hs)
  have R := Lib.hid hr
  have hA : Only k w w1 := (by refine Only.trans ?_ hO; repeat (first | exact Only.refl _ _ | assumption | refine Only.drew ?_ | refine Only.drewN ?_ _ | refine Only.alloc ?_ _))
  obtain ⟨hc1, hf1⟩ := hO.cells
  clear hr
  obtain ⟨n, hn⟩ : ∃ n : Nat, 2 + xn = (n : Int) := ⟨(2 + xn).toNat, by omega⟩
  have hn2 : 2 ≤ n := by omega
  have hn5 : n ≤ 5 := by omega
  have hmz : MatH (w1.alloc (.cells #[] 37)) w.heap.size (.slice (some ⟨w.heap.size, 0, none⟩) 0 0) 0 n := by have := MatH.zero w1 n; rw [hs] at this; exact this
  have hS0 : RS k a len' cap zs w (w1.alloc (.cells #[] 37)) (p + 1) (.slice (some ⟨w.heap.size, 0, none⟩) 0 0) 0 n := ⟨(R.out).below (Below.alloc (Below.refl _ _) (Nat.le_refl _) _), hA.trans (Only.of_below (Below.alloc (Below.refl _ _) (Nat.le_refl _) _)), hmz, hkw⟩
  have S0 := Lib.hid hS0
  clear hS0 hA hc1 hf1 hO hmz
  go_wp2_with fail
  go_loopg [4, 5] n (fun gk s4 s5 wr => ∃ i : Nat, s5 = .int .i64 (i : Int) ∧ i + gk = n ∧ Hid (RS k a len' cap zs w wr (p + 1) s4 i n))
  case atStart => exact ⟨0, rfl, by omega, S0⟩
  case round =>
    obtain ⟨i, rfl, hi', S⟩ := hrel
    obtain ⟨oa, oc, e, hoc, hocm⟩ := S.out.mat.form
    subst e
    by_cases hg : gk = 0
    · subst hg
      obtain rfl : i = n := by omega
      have hdn : decide ((i : Int) < (i : Int)) = false := by simp
      clear hi'
      go_wp2_with fail
      refine (pick_any 6 k a len' cap zs _ _ (by omega) (RS.rd (by first | exact S.out | exact S.out.drew | exact S.out.alloc _ | exact (S.out.drew).alloc _ | exact (S.out.alloc _).drew | exact (S.out.alloc _).alloc _)) (by omega)).mono ?_
      rintro e w2 ⟨xr, rfl, xr0, xr1, hr, hO, hs⟩
      (try simp at hs)
      have S := Lib.hid (RS.picked (by first | exact S.out | exact S.out.drew | exact S.out.alloc _ | exact (S.out.drew).alloc _ | exact (S.out.alloc _).drew | exact (S.out.alloc _).alloc _) hr hO)
      clear hr
      obtain ⟨rg, hrg⟩ : ∃ rg : Bool, (xr == 0) = rg := ⟨_, rfl⟩
      clear hO
      go_wp2_with fail
      go_loopg [7] i (fun gk s7 wr => ∃ (A q : Nat), s7 = .int .i64 (A : Int) ∧ A + gk = i ∧ p ≤ q ∧ q ≤ p + 2 + 10 * A ∧ Hid (RS k a len' cap zs w wr q (.slice oa i oc) i i))
      case atStart => exact ⟨0, p + 1 + 1, rfl, by omega, by omega, by omega, S⟩
      case round =>
        obtain ⟨A, q, rfl, hA, hq0, hq1, S⟩ := hrel
        by_cases hg : gk = 0
        · subst hg
          obtain rfl : A = i := by omega
          have hdn : decide ((A : Int) < (A : Int)) = false := by simp
          clear hrg
          go_wp2_with fail
          refine (pick_any 2 k a len' cap zs _ _ (by omega) (RS.rd (by first | exact S.out | exact S.out.drew | exact S.out.alloc _ | exact (S.out.drew).alloc _ | exact (S.out.alloc _).drew | exact (S.out.alloc _).alloc _)) (by omega)).mono ?_
          rintro e w5 ⟨xs, rfl, xs0, xs1, hr, hO, hs⟩
          (try simp at hs)
          have S := Lib.hid (RS.picked (by first | exact S.out | exact S.out.drew | exact S.out.alloc _ | exact (S.out.drew).alloc _ | exact (S.out.alloc _).drew | exact (S.out.alloc _).alloc _) hr hO)
          clear hr
          clear hO
          go_upto_if 71 with fail
          go_cut [4] (fun s4 wx => ∃ q : Nat, p ≤ q ∧ q ≤ p + 60 ∧ Hid (RS k a len' cap zs w wx q s4 A A))
          case first =>
            by_cases hxs : xs = 0
            · subst hxs
              have hmz : MatH (w5.alloc (.cells #[] 37)) w5.heap.size (.slice (some ⟨wr.heap.size, 0, none⟩) 0 0) 0 A := by have := MatH.zero w5 A; rw [hs] at this ⊢; exact this
              have HMZ := Lib.hid hmz
              have hws := S.out.size
              clear hmz
              go_wp2_with fail
              go_loopg [10, 11] A (fun gk s10 s11 wr => ∃ (z : Int) (c : Nat), s11 = .int .i64 z ∧ z + 1 = (gk : Int) ∧ c + gk = A ∧ Hid (MatH wr w5.heap.size s10 c A) ∧ Hid (Below w5.heap.size w5 wr))
              case atStart => exact ⟨(A : Int) - 1, 0, by go_num, by omega, by omega, HMZ, Lib.hid (Below.alloc (Below.refl _ _) (Nat.le_refl _) _)⟩
              case round =>
                obtain ⟨w9, rfl⟩ : ∃ W, W = wr := ⟨_, rfl⟩
                obtain ⟨z, c, rfl, hz, hc, M, hb⟩ := hrel
                obtain ⟨ma, mc, e, hmc, hmcm⟩ := M.out.form
                subst e
                by_cases hg : gk = 0
                · subst hg
                  obtain rfl : z = -1 := by omega
                  obtain rfl : c = A := by omega
                  go_wp2_with fail
                  go_meet
                  exact ⟨_, by omega, by omega, Lib.hid ⟨(S.out.below hb.out).rd, (S.out.below hb.out).on, M.out.lift hws, S.out.far⟩⟩
                · obtain ⟨Z, rfl⟩ : ∃ Z : Nat, z = (Z : Int) := ⟨z.toNat, by omega⟩
                  have hZA : Z < A := by omega
                  have hZI : (Z : Int) < (A : Int) := by omega
                  have Z0 : (0 : Int) ≤ (Z : Int) := by omega
                  have hgk : 1 ≤ gk := by omega
                  obtain ⟨G, hG⟩ : ∃ G, G = gk := ⟨_, rfl⟩
                  have hcA : c ≤ A := by omega
                  have HZ := Lib.hid hz
                  have HC := Lib.hid hc
                  clear hz hc hg
                  have hws5 : w5.heap.size ≤ w9.heap.size := hb.out.size
                  have S6 := Lib.hid (S.out.below hb.out)
                  obtain ⟨g, gc, u, ev, hgl, hglo, hgc, hu⟩ := S6.out.mat.get Z hZA
                  simp only [Value.slice.injEq] at ev
                  obtain ⟨rfl, _, rfl⟩ := ev
                  have hz0 := own_zero w9
                  have HZ0 := Lib.hid hz0
                  clear hz0
                  obtain ⟨ovs, o1, o2, o3⟩ := M.out
                  have O2 := Lib.hid o2
                  have O3 := Lib.hid o3
                  clear o2 o3
                  go_wp2_with fail
                  go_loopg [12, 13] A (fun g2 s12 s13 wr => ∃ (y : Int) (l : List Int), s13 = .int .i64 y ∧ y + 1 = (g2 : Int) ∧ l.length + g2 = A ∧ Hid (OwnInts wr w9.heap.size s12 l) ∧ Hid (Below w9.heap.size w9 wr))
                  case atStart => exact ⟨(A : Int) - 1, [], by go_num, by omega, by simp, HZ0, Lib.hid (Below.alloc (Below.refl _ _) (Nat.le_refl _) _)⟩
                  case round =>
                    obtain ⟨y, l, rfl, hy, hl, OW, hbx⟩ := hrel
                    obtain ⟨ra, rc, e, hrc, hrcm⟩ := OW.out.form
                    subst e
                    obtain ⟨L, hL⟩ : ∃ L, l.length = L := ⟨_, rfl⟩
                    rw [hL] at OW hl hrc ⊢
                    have hLA0 : L ≤ A := by omega
                    have HL := Lib.hid hL
                    have hwr : w9.heap.size ≤ wr.heap.size := hbx.out.size
                    clear hL
                    by_cases hg : gk = 0
                    · subst hg
                      obtain rfl : y = -1 := by omega
                      have hLA : L = A := by omega
                      have HLA := Lib.hid hLA
                      clear hLA
                      go_wp2_with (at_builtin; refine wpList_append_src rfl (.tmp 96) (.tmp 98) 23 rfl w5.heap.size 37 i2 (.slice none 0 0) 24 Tryz.underlying23 hi2 hy0 hy1 hy2 rfl (.slice ma c mc) c ovs rfl (World.ownsRow.alloc (owns_belowR O2.out hbx.out) _) (.slice (some ⟨wr.heap.size, 0, none⟩) 1 1) 1 (fun _ => .slice ra L rc) rfl (lit_any wr _ _) (fun j hj => rfl) (by unfold maxLen; omega) (by omega) (by (try simp); omega) ?_; intro v4 w6 hown4 hgrow4; have M6 : Hid (MatH w6 w5.heap.size v4 (c + 1) A) := Lib.hid (MatH.push o1 (World.ownsRow.alloc (owns_belowR O2.out hbx.out) _) (fun i hi => ((O3.out i hi).below hbx.out).below (Below.alloc (Below.refl _ _) (Nat.le_refl _) _)) (by have := ((OW.out.nums).lift hws5).below (Below.alloc (Below.refl _ _) (Nat.le_refl _) (.cells #[.slice ra L rc] 37)); rw [HL.out, HLA.out] at this; rw [HLA.out]; exact this) hgrow4 hown4); have B6 : Hid (Below w5.heap.size w5 w6) := Lib.hid (Below.grown (Below.alloc (hb.out.trans (hbx.out.mono hws5)) (by omega) _) hgrow4 (by simp; omega) (fun g hg => (World.ownsRow.lt O2.out g hg).1)); clear hown4 hgrow4)
                      go_roundg (G - 1)
                      case measure => omega
                      case rel => exact ⟨(Z : Int) - 1, c + 1, by go_num, by have := HZ.out; omega, by have := HC.out; omega, M6, B6⟩
                    · obtain ⟨Y, rfl⟩ : ∃ Y : Nat, y = (Y : Int) := ⟨y.toNat, by omega⟩
                      have hYA : Y < A := by omega
                      have hYI : (Y : Int) < (A : Int) := by omega
                      have Y0 : (0 : Int) ≤ (Y : Int) := by omega
                      have hgk' : 1 ≤ gk := by omega
                      have hgcx := (hbx.out.cell (p := ⟨g, Z, none⟩) hgl).trans hgc
                      obtain ⟨g1, c1, cur1, x1, e, hlo1, hl1, hb1, hx1, hf1, hc1', _⟩ := (hu.below hbx.out).get Y hYA
                      have HY := Lib.hid hy
                      have HLL := Lib.hid hl
                      have HX : Hid (hbx = hbx) := Lib.hid rfl
                      have OWN : Hid (wr.ownsRow w9.heap.size 3 1 (.slice ra L rc) L (l.map (Value.int .i64))) := Lib.hid (by have := OW.out; unfold OwnInts at this; rw [HL.out] at this; exact this)
                      rw [e] at hgcx
                      clear hy hl hg hb1
                      go_wp2_with (at_builtin; refine wpList_append_src rfl (.tmp 86) (.tmp 94) 37 rfl w9.heap.size 3 i0 (.int .i64 0) 8 Tryz.underlying37 hi hz0 hz1 hz2 rfl (.slice ra L rc) L (l.map (Value.int .i64)) rfl (World.ownsRow.alloc OWN.out _) (.slice (some ⟨wr.heap.size, 0, none⟩) 1 1) 1 (fun _ => .int .i64 x1) rfl (lit_any wr _ _) (fun j hj => rfl) (by unfold maxLen; omega) (by omega) (by (try simp); omega) ?_; intro v' w6 hown6 hgrow6)
                      go_roundg (gk - 1)
                      case measure => omega
                      case rel =>
                        refine ⟨(Y : Int) - 1, l ++ [x1], by go_num, by have := HY.out; omega, by have := HLL.out; rw [List.length_append, HL.out, List.length_singleton]; omega, Lib.hid ?_, Lib.hid (Below.grown (Below.alloc hbx.out hwr _) hgrow6 (by simp; omega) (fun g hg => (World.ownsRow.lt OWN.out g hg).1))⟩
                        unfold OwnInts
                        rw [List.length_append, HL.out, List.map_append]
                        exact hown6
            · have hxb : (xs == 0) = false := by simp [hxs]
              go_wp2_with fail
              go_meet
              exact ⟨_, by omega, by omega, S⟩
          case rest =>
            obtain ⟨q, hq0, hq1, S⟩ := hcut
            obtain ⟨ma, mc, e, hmc, hmcm⟩ := S.out.mat.form
            subst e
            go_wp2_with fail
            refine (pick_any 40 k a len' cap zs _ _ (by omega) (RS.rd (by first | exact S.out | exact S.out.drew | exact S.out.alloc _ | exact (S.out.drew).alloc _ | exact (S.out.alloc _).drew | exact (S.out.alloc _).alloc _)) (by omega)).mono ?_
            rintro e w7 ⟨xt, rfl, xt0, xt1, hr, hO, hs⟩
            (try simp at hs)
            have S := Lib.hid (RS.picked (by first | exact S.out | exact S.out.drew | exact S.out.alloc _ | exact (S.out.drew).alloc _ | exact (S.out.alloc _).drew | exact (S.out.alloc _).alloc _) hr hO)
            clear hr
            clear hO
            by_cases hxt : xt = 0
            · subst hxt
              have hfar := S.out.far
              obtain ⟨g, gc, u, ev, hgl, hglo, hgc, hu⟩ := S.out.mat.get 0 (by omega)
              simp only [Value.slice.injEq] at ev
              obtain ⟨rfl, _, rfl⟩ := ev
              obtain ⟨g1, c1, cur1, x1, rfl, hlo1, hl1, hb1, hx1, hf1, hn1, hm1⟩ := hu.get 1 (by omega)
              have A1 : (1 : Int) < (A : Int) := by omega
              have A0 : (0 : Int) < (A : Int) := by omega
              have A0n : 0 < A := by omega
              have A1n : 1 < A := by omega
              go_wp2_with fail
              go_region_law (go_simp; go_at_call 33; refine (pick_any 5 k a len' cap zs _ _ (by omega) (RS.rd (by first | exact S.out | exact S.out.drew)) (by omega)).mono ?_; rintro e w8 ⟨xu, rfl, xu0, xu1, hr, hO, hs⟩; (try simp at hs); have S8 := Lib.hid (RS.picked (by first | exact S.out | exact S.out.drew) hr hO); have k1 := (hO.cell (p := ⟨g, 0, none⟩) (by first | exact hgl | simpa using hgl) (by simp; omega)).trans (show _ = some (Value.slice (some ⟨g1, 0, none⟩) A c1) by first | exact hgc | simpa using hgc); have k2 := (hO.cell (p := ⟨g1, 1, none⟩) (by first | exact hl1 | simpa using hl1) (by simp; omega)).trans (show _ = some (Value.int .i64 x1) by first | exact hx1 | simpa using hx1); have k3 := (hO.frozen (p := ⟨g1, 1, none⟩) (by first | exact hl1 | simpa using hl1) (by simp; omega)).trans (show _ = false by first | exact hf1 | simpa using hf1); have k4 := (hO.block g1 (by first | exact hl1 | simpa using hl1) (by omega)).trans (show _ = some (Obj.cells cur1 3 (0, 0)) by first | exact hb1 | simpa using hb1); clear hr hO)
              all_goals
                go_wp2_with fail
                go_ret
                exact ⟨_, A, _, rfl, hn2, hn5, by omega, by omega, S8.out.set hlo1 k4 1 xu⟩
            · have hxb : (xt == 0) = false := by simp [hxt]
              go_wp2_with fail
              go_ret
              exact ⟨_, A, _, rfl, hn2, hn5, by omega, by omega, S.out⟩
        · have hAi : A < i := by omega
          have hAI : (A : Int) < (i : Int) := by omega
          have A0 : (0 : Int) ≤ (A : Int) := by omega
          have hgk : 1 ≤ gk := by omega
          have HA := Lib.hid hA
          obtain ⟨G, hG⟩ : ∃ G, G = gk := ⟨_, rfl⟩
          clear hA hg
          go_wp2_with fail
          go_loopg [8] (i - (A + 1)) (fun g2 s8 wr => ∃ (B q : Nat), s8 = .int .i64 (B : Int) ∧ B + g2 = i ∧ A < B ∧ p ≤ q ∧ q ≤ p + 2 + 10 * A + 2 * B ∧ Hid (RS k a len' cap zs w wr q (.slice oa i oc) i i))
          case atStart => exact ⟨A + 1, q, by go_num, by omega, by omega, by omega, by omega, S⟩
          case round =>
            obtain ⟨B, q, rfl, hB, hAB, hq0, hq1, S⟩ := hrel
            by_cases hg : gk = 0
            · subst hg
              obtain rfl : B = i := by omega
              have hdn : decide ((B : Int) < (B : Int)) = false := by simp
              go_wp2_with fail
              go_roundg (G - 1)
              case measure => omega
              case rel => exact ⟨A + 1, q, by go_num, by have := HA.out; omega, by omega, by omega, S⟩
            · have hBi : B < i := by omega
              have hBI : (B : Int) < (i : Int) := by omega
              have B0 : (0 : Int) ≤ (B : Int) := by omega
              have hgk : 1 ≤ gk := by omega
              have HB := Lib.hid hB
              clear hB hg
              have hws := S.out.size
              have hfar := S.out.far
              go_wp2_with fail
              refine (pick_any 4 k a len' cap zs _ _ (by omega) (RS.rd (by first | exact S.out | exact S.out.drew | exact S.out.alloc _ | exact (S.out.drew).alloc _ | exact (S.out.alloc _).drew | exact (S.out.alloc _).alloc _)) (by omega)).mono ?_
              rintro e w3 ⟨xd, rfl, xd0, xd1, hr, hO, hs⟩
              (try simp at hs)
              have S := Lib.hid (RS.picked (by first | exact S.out | exact S.out.drew | exact S.out.alloc _ | exact (S.out.drew).alloc _ | exact (S.out.alloc _).drew | exact (S.out.alloc _).alloc _) hr hO)
              clear hr
              obtain ⟨r, hr0, hr2, hcl⟩ : ∃ r : Int, 0 ≤ r ∧ r ≤ 2 ∧ w3.cell? ⟨wr.heap.size, xd.toNat, none⟩ = some (.int .i64 r) := by
                have e := hO.cell (p := ⟨wr.heap.size, xd.toNat, none⟩) (by simp) (by simp; omega)
                have : xd = 0 ∨ xd = 1 ∨ xd = 2 ∨ xd = 3 := by omega
                rcases this with rfl | rfl | rfl | rfl
                · exact ⟨0, by omega, by omega, e.trans (by simp)⟩
                · exact ⟨1, by omega, by omega, e.trans (by simp)⟩
                · exact ⟨1, by omega, by omega, e.trans (by simp)⟩
                · exact ⟨2, by omega, by omega, e.trans (by simp)⟩
              clear hO
              cases rg
              · go_upto_region 17 with fail
                obtain ⟨g, gc, u, ev, hgl, hglo, hgc, hu⟩ := S.out.mat.get A hAi
                simp only [Value.slice.injEq] at ev
                obtain ⟨rfl, _, rfl⟩ := ev
                obtain ⟨g1, c1, cur1, x1, rfl, hlo1, hl1, hb1, hx1, hf1, _, _⟩ := hu.get B hBi
                have S2 := Lib.hid (S.out.set hlo1 hb1 B r)
                have hne1 : g ≠ g1 := fun e => by
                  subst e
                  obtain ⟨vs, _, m2, _⟩ := S.out.mat
                  rcases m2.2 with ⟨e, _⟩ | ⟨g', cap', cur', e, _, hg', _⟩
                  · simp at e
                  · simp only [Value.slice.injEq, Option.some.injEq, Addr.mk.injEq, and_true, true_and] at e
                    obtain ⟨rfl, _⟩ := e
                    rw [hg'] at hb1; simp at hb1
                go_wp2_with fail
                obtain ⟨g2, gc2, u2, ev2, hgl2, hglo2, hgc2, hu2⟩ := S2.out.mat.get B hBi
                simp only [Value.slice.injEq, Option.some.injEq, Addr.mk.injEq, and_true, true_and] at ev2
                obtain ⟨rfl, rfl⟩ := ev2
                obtain ⟨g3, c3, cur3, x3, rfl, hlo3, hl3, hb3, hx3, hf3, _, _⟩ := hu2.get A hAi
                obtain ⟨w5, hw5⟩ : ∃ W, w3.setCell ⟨g1, B, none⟩ (.int .i64 r) = W := ⟨_, rfl⟩
                rw [hw5] at S2 hgc2 hb3 hx3 hf3 hgl2 hl3 ⊢
                have hs5 := S2.out.size
                clear hx1 hf1 hb1 hgc S hw5
                go_region_law (go_simp; go_at_call 59; refine (l12Back_any r (by omega) (by omega) _).mono ?_; rintro e w6 ⟨y, rfl, y0, y3, hbk⟩; have hB6 : Below w5.heap.size w5 w6 := (by refine Below.trans ?_ (hbk.mono (by first | exact Nat.le_refl _ | omega | (simp; done) | (simp; omega))); repeat (first | exact Below.refl _ _ | assumption | refine Below.drew ?_ | refine belowDrewN ?_ _ | refine Below.alloc ?_ (by first | exact Nat.le_refl _ | omega | (simp; done) | (simp; omega)) _ | refine Below.setCell ?_ (by first | exact Nat.le_refl _ | omega | (simp; done) | (simp; omega)) _)); have S6 := Lib.hid (S2.out.below hB6); have k1 := (hB6.cell (p := ⟨g, B, none⟩) hgl2).trans hgc2; have k2 := (hB6.cell (p := ⟨g3, A, none⟩) hl3).trans hx3; have k3 := (hB6.frozen (p := ⟨g3, A, none⟩) hl3).trans hf3; have k4 := (hB6.block g3 hl3).trans hb3; clear hbk)
                all_goals
                  go_wp2_with fail
                  go_roundg (gk - 1)
                  case measure => omega
                  case rel => exact ⟨B + 1, _, by go_num, by have := HB.out; omega, by omega, by omega, by omega, Lib.hid (S6.out.set hlo3 k4 A y)⟩
              · skip
                go_wp2_with fail
                refine (pick_any 2 k a len' cap zs _ _ (by omega) (RS.rd (by first | exact S.out | exact S.out.drew | exact S.out.alloc _ | exact (S.out.drew).alloc _ | exact (S.out.alloc _).drew | exact (S.out.alloc _).alloc _)) (by omega)).mono ?_
                rintro e w4 ⟨xe, rfl, xe0, xe1, hr, hO, hs⟩
                (try simp at hs)
                have S := Lib.hid (RS.picked (by first | exact S.out | exact S.out.drew | exact S.out.alloc _ | exact (S.out.drew).alloc _ | exact (S.out.alloc _).drew | exact (S.out.alloc _).alloc _) hr hO)
                clear hr
                clear hO
                by_cases he : xe = 0
                · subst he
                  go_upto_region 17 with fail
                  obtain ⟨g, gc, u, ev, hgl, hglo, hgc, hu⟩ := S.out.mat.get A hAi
                  simp only [Value.slice.injEq] at ev
                  obtain ⟨rfl, _, rfl⟩ := ev
                  obtain ⟨g1, c1, cur1, x1, rfl, hlo1, hl1, hb1, hx1, hf1, _, _⟩ := hu.get B hBi
                  have S2 := Lib.hid (S.out.set hlo1 hb1 B 3)
                  have hne1 : g ≠ g1 := fun e => by
                    subst e
                    obtain ⟨vs, _, m2, _⟩ := S.out.mat
                    rcases m2.2 with ⟨e, _⟩ | ⟨g', cap', cur', e, _, hg', _⟩
                    · simp at e
                    · simp only [Value.slice.injEq, Option.some.injEq, Addr.mk.injEq, and_true, true_and] at e
                      obtain ⟨rfl, _⟩ := e
                      rw [hg'] at hb1; simp at hb1
                  go_wp2_with fail
                  obtain ⟨g2, gc2, u2, ev2, hgl2, hglo2, hgc2, hu2⟩ := S2.out.mat.get B hBi
                  simp only [Value.slice.injEq, Option.some.injEq, Addr.mk.injEq, and_true, true_and] at ev2
                  obtain ⟨rfl, rfl⟩ := ev2
                  obtain ⟨g3, c3, cur3, x3, rfl, hlo3, hl3, hb3, hx3, hf3, _, _⟩ := hu2.get A hAi
                  obtain ⟨w5, hw5⟩ : ∃ W, w4.setCell ⟨g1, B, none⟩ (.int .i64 3) = W := ⟨_, rfl⟩
                  rw [hw5] at S2 hgc2 hb3 hx3 hf3 hgl2 hl3 ⊢
                  have hs5 := S2.out.size
                  clear hx1 hf1 hb1 hgc S hw5
                  go_region_law (go_simp; go_at_call 59; refine (l12Back_any 3 (by omega) (by omega) _).mono ?_; rintro e w6 ⟨y, rfl, y0, y3, hbk⟩; have hB6 : Below w5.heap.size w5 w6 := (by refine Below.trans ?_ (hbk.mono (by first | exact Nat.le_refl _ | omega | (simp; done) | (simp; omega))); repeat (first | exact Below.refl _ _ | assumption | refine Below.drew ?_ | refine belowDrewN ?_ _ | refine Below.alloc ?_ (by first | exact Nat.le_refl _ | omega | (simp; done) | (simp; omega)) _ | refine Below.setCell ?_ (by first | exact Nat.le_refl _ | omega | (simp; done) | (simp; omega)) _)); have S6 := Lib.hid (S2.out.below hB6); have k1 := (hB6.cell (p := ⟨g, B, none⟩) hgl2).trans hgc2; have k2 := (hB6.cell (p := ⟨g3, A, none⟩) hl3).trans hx3; have k3 := (hB6.frozen (p := ⟨g3, A, none⟩) hl3).trans hf3; have k4 := (hB6.block g3 hl3).trans hb3; clear hbk)
                  all_goals
                    go_wp2_with fail
                    go_roundg (gk - 1)
                    case measure => omega
                    case rel => exact ⟨B + 1, _, by go_num, by have := HB.out; omega, by omega, by omega, by omega, Lib.hid (S6.out.set hlo3 k4 A y)⟩
                · have heb : (xe == 0) = false := by simp [he]
                  go_upto_region 17 with fail
                  obtain ⟨g, gc, u, ev, hgl, hglo, hgc, hu⟩ := S.out.mat.get A hAi
                  simp only [Value.slice.injEq] at ev
                  obtain ⟨rfl, _, rfl⟩ := ev
                  obtain ⟨g1, c1, cur1, x1, rfl, hlo1, hl1, hb1, hx1, hf1, _, _⟩ := hu.get B hBi
                  have S2 := Lib.hid (S.out.set hlo1 hb1 B r)
                  have hne1 : g ≠ g1 := fun e => by
                    subst e
                    obtain ⟨vs, _, m2, _⟩ := S.out.mat
                    rcases m2.2 with ⟨e, _⟩ | ⟨g', cap', cur', e, _, hg', _⟩
                    · simp at e
                    · simp only [Value.slice.injEq, Option.some.injEq, Addr.mk.injEq, and_true, true_and] at e
                      obtain ⟨rfl, _⟩ := e
                      rw [hg'] at hb1; simp at hb1
                  go_wp2_with fail
                  obtain ⟨g2, gc2, u2, ev2, hgl2, hglo2, hgc2, hu2⟩ := S2.out.mat.get B hBi
                  simp only [Value.slice.injEq, Option.some.injEq, Addr.mk.injEq, and_true, true_and] at ev2
                  obtain ⟨rfl, rfl⟩ := ev2
                  obtain ⟨g3, c3, cur3, x3, rfl, hlo3, hl3, hb3, hx3, hf3, _, _⟩ := hu2.get A hAi
                  obtain ⟨w5, hw5⟩ : ∃ W, w4.setCell ⟨g1, B, none⟩ (.int .i64 r) = W := ⟨_, rfl⟩
                  rw [hw5] at S2 hgc2 hb3 hx3 hf3 hgl2 hl3 ⊢
                  have hs5 := S2.out.size
                  clear hx1 hf1 hb1 hgc S hw5
                  go_region_law (go_simp; go_at_call 59; refine (l12Back_any r (by omega) (by omega) _).mono ?_; rintro e w6 ⟨y, rfl, y0, y3, hbk⟩; have hB6 : Below w5.heap.size w5 w6 := (by refine Below.trans ?_ (hbk.mono (by first | exact Nat.le_refl _ | omega | (simp; done) | (simp; omega))); repeat (first | exact Below.refl _ _ | assumption | refine Below.drew ?_ | refine belowDrewN ?_ _ | refine Below.alloc ?_ (by first | exact Nat.le_refl _ | omega | (simp; done) | (simp; omega)) _ | refine Below.setCell ?_ (by first | exact Nat.le_refl _ | omega | (simp; done) | (simp; omega)) _)); have S6 := Lib.hid (S2.out.below hB6); have k1 := (hB6.cell (p := ⟨g, B, none⟩) hgl2).trans hgc2; have k2 := (hB6.cell (p := ⟨g3, A, none⟩) hl3).trans hx3; have k3 := (hB6.frozen (p := ⟨g3, A, none⟩) hl3).trans hf3; have k4 := (hB6.block g3 hl3).trans hb3; clear hbk)
                  all_goals
                    go_wp2_with fail
                    go_roundg (gk - 1)
                    case measure => omega
                    case rel => exact ⟨B + 1, _, by go_num, by have := HB.out; omega, by omega, by omega, by omega, Lib.hid (S6.out.set hlo3 k4 A y)⟩
    · have hin : i < n := by omega
      have hiI : (i : Int) < (n : Int) := by omega
      have hgk : 1 ≤ gk := by omega
      have HI := Lib.hid hi'
      clear hi' hg
      obtain ⟨vs, m1, m2, m3⟩ := S.out.mat
      have M2 := Lib.hid m2
      have M3 := Lib.hid m3
      have hws := S.out.size
      clear m2 m3
      go_wp2_with (first
        | (at_make; refine wpList_make_full _ rfl (.tmp 24) (.tmp 24) 37 rfl wr.heap.size 3 i0 (.int .i64 0) 1 Tryz.underlying37 hi hz0 hz1 .i64 .i64 n n n rfl rfl rfl rfl (by rw [hz2]; omega) (by unfold maxLen; omega) (by simp) ?_; intro w2 hown hgrow; have hB2 : Below wr.heap.size wr w2 := (Below.refl _ _).grown hgrow (Nat.le_refl _) (by intro k hk; cases hk); have HU : Hid (HasNums w2 w.heap.size (.slice (some ⟨wr.heap.size, 0, none⟩) n n) n) := Lib.hid ((made_nums hown).lift hws); have hs2 : w.heap.size ≤ w2.heap.size := Nat.le_trans hws hB2.size; have M2' := Lib.hid (owns_belowR M2.out hB2); clear hown hgrow)
        | (at_builtin; refine wpList_append_src rfl (.tmp 23) (.tmp 26) 23 rfl w.heap.size 37 i2 (.slice none 0 0) 24 Tryz.underlying23 hi2 hy0 hy1 hy2 rfl (.slice oa i oc) i vs rfl (World.ownsRow.alloc M2'.out _) (.slice (some ⟨w2.heap.size, 0, none⟩) 1 1) 1 (fun _ => .slice (some ⟨wr.heap.size, 0, none⟩) n n) rfl (lit_any w2 _ _) (fun j hj => rfl) (by unfold maxLen; omega) (by omega) (by (try simp); omega) ?_; intro v4 w4 hown4 hgrow4; have S4 : Hid (RS k a len' cap zs w w4 (p + 1) v4 (i + 1) n) := Lib.hid (S.out.push m1 M2.out M3.out (Below.alloc hB2 (by have := hB2.size; omega) _) (HU.out.below (Below.alloc (Below.refl _ _) (Nat.le_refl _) _)) hgrow4 hown4); clear hown4 hgrow4))
      go_roundg (gk - 1)
      case measure => omega
      case rel => exact ⟨i + 1, by go_num, by have := HI.out; omega, S4⟩
end Go.Proofs.YtlpibfafpljedaaGreatDoor
