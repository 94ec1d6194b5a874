/- A path as a bit set: impl.isHouse, trail.has. impl.PathOk at a path: errors.Is of nil and a sentinel. Slices cut at the front. -/
import Derived.Test.YtlpibfafpljedaaGreatDoorNest
import Derived.Deep.LoopGhost
import Derived.Deep.RegionHeld3
import Derived.Deep.RegionWith
import Derived.LaidEql
namespace Go.Proofs.YtlpibfafpljedaaGreatDoor
open Go.RowKit
set_option linter.unusedVariables false

set_option maxHeartbeats 1000000 in
theorem isHouse_any (h : Int) (w : World) : Calls Tryz.prog 52 #[.int .i64 h] w fun e w' => e = .returned (.bool (decide (1 ≤ h) && decide (h ≤ 5))) ∧ w' = w := by
  by_cases h1 : 1 ≤ h
  · rw [decide_eq_true h1, Bool.true_and]
    go_enter Tryz.func52, Tryz.ntmps52
    go_wp2_with fail
    go_ret
    exact ⟨rfl, rfl⟩
  · rw [decide_eq_false h1, Bool.false_and]
    go_enter Tryz.func52, Tryz.ntmps52
    go_wp2_with fail
    go_ret
    exact ⟨rfl, rfl⟩
theorem bit_fin : ∀ S : Fin 64, ∀ h : Fin 6, (bits BinOp.and IntKind.u64 (((S : Nat) : Int) / 2 ^ (h : Nat)) 1 == 1) = (S : Nat).testBit (h : Nat) := by decide +kernel
theorem bit_has (S : Nat) (hS : S < 64) (h : Nat) (hh : h < 6) : (bits BinOp.and IntKind.u64 ((S : Int) / 2 ^ h) 1 == 1) = S.testBit h := bit_fin ⟨S, hS⟩ ⟨h, hh⟩
theorem or_fin : ∀ S : Fin 64, ∀ h : Fin 6, bits BinOp.or IntKind.u64 ((S : Nat) : Int) (IntKind.u64.wrap (2 ^ (h : Nat))) = (((S : Nat) ||| 2 ^ (h : Nat) : Nat) : Int) := by decide +kernel
theorem or_has (S : Nat) (hS : S < 64) (h : Nat) (hh : h < 6) : bits BinOp.or IntKind.u64 (S : Int) (IntKind.u64.wrap (2 ^ h)) = ((S ||| 2 ^ h : Nat) : Int) := or_fin ⟨S, hS⟩ ⟨h, hh⟩
def setTo (p : List Int) (k : Nat) : Nat := (p.take k).foldl (fun s h => s ||| 2 ^ h.toNat) 0
theorem setTo_succ {p : List Int} {k : Nat} (hk : k < p.length) : setTo p (k + 1) = setTo p k ||| 2 ^ (p.getD k 0).toNat := by
  unfold setTo
  rw [List.take_add_one, List.foldl_append, List.getD_eq_getElem?_getD, List.getElem?_eq_getElem hk]; rfl
theorem setTo_lt {p : List Int} (hp : ∀ j, j < p.length → 1 ≤ p.getD j 0 ∧ p.getD j 0 ≤ 5) : ∀ k, k ≤ p.length → setTo p k < 64
  | 0, _ => by simp [setTo]
  | k + 1, hk => by
    rw [setTo_succ (by omega)]
    have h1 := setTo_lt hp k (by omega)
    have h2 := hp k (by omega)
    have h3 : 2 ^ (p.getD k 0).toNat < 2 ^ 6 := Nat.pow_lt_pow_right (by omega) (by omega)
    exact Nat.or_lt_two_pow (n := 6) h1 h3
theorem setTo_bit {p : List Int} : ∀ (k : Nat), k ≤ p.length → ∀ b : Nat, (∀ j, j < k → (p.getD j 0).toNat ≠ b) → (setTo p k).testBit b = false
  | 0, _, b, _ => by simp [setTo]
  | k + 1, hk, b, h => by
    rw [setTo_succ (by omega), Nat.testBit_or, setTo_bit k (by omega) b (fun j hj => h j (by omega)), Nat.testBit_two_pow]
    have := h k (by omega)
    rw [decide_eq_false this]; rfl
set_option maxHeartbeats 1000000 in
theorem trailHas_any (S : Nat) (hS : S < 64) (v : Value) (hv : ∃ a n c, v = .slice a n c) (h : Int) (h1 : 1 ≤ h) (h5 : h ≤ 5) (w : World) : Calls Tryz.prog 53 #[.agg #[.int .u64 (S : Int), v], .int .i64 h] w fun e w' => e = .returned (.bool (S.testBit h.toNat)) ∧ Below w.heap.size w w' := by
  obtain ⟨a, n, c, rfl⟩ := hv
  have hh : ∀ W, Calls Tryz.prog 52 #[.int .i64 h] W fun e w' => e = .returned (.bool true) ∧ w' = W := fun W => by
    have := isHouse_any h W
    rw [decide_eq_true h1, decide_eq_true h5] at this
    exact this
  have HH := Lib.hid hh
  clear hh
  go_enter Tryz.func53, Tryz.ntmps53
  go_wp2_with fail
  refine (HH.out _).mono ?_
  rintro e w1 ⟨rfl, rfl⟩
  go_wp2_with fail
  go_ret
  obtain ⟨x, rfl⟩ : ∃ x : Nat, h = (x : Int) := ⟨h.toNat, by omega⟩
  exact ⟨by have := bit_has S hS x (by omega); simp only [Int.toNat_natCast]; rw [← this]; rfl, by repeat (first | exact Below.refl _ _ | assumption | refine Below.drew ?_ | refine belowDrewN ?_ _ | refine Below.alloc ?_ (by first | exact Nat.le_refl _ | omega | (simp; done) | (simp; omega)) _ | refine Below.setCell ?_ (by first | exact Nat.le_refl _ | omega | (simp; done) | (simp; omega)) _)⟩
/-- houses from 1 to 5, each once -/
def GoodP (p : List Int) : Prop := (∀ j, j < p.length → 1 ≤ p.getD j 0 ∧ p.getD j 0 ≤ 5) ∧ ∀ i j, i < j → j < p.length → p.getD i 0 ≠ p.getD j 0
theorem goodP_bit {p : List Int} (h : GoodP p) {k : Nat} (hk : k < p.length) : (setTo p k).testBit (p.getD k 0).toNat = false :=
  setTo_bit k (by omega) _ (fun j hj e => h.2 j k hj hk (by have := h.1 j (by omega); have := h.1 k hk; omega))
structure TR (w W : World) (S : Nat) (v : Value) : Prop where
  bel : Below w.heap.size w W
  big : w.heap.size + 2 ≤ W.heap.size
  r0 : W.cell? ⟨w.heap.size, 0, none⟩ = some (.int .u64 0)
  r1 : W.cell? ⟨w.heap.size, 1, none⟩ = some (.slice none 0 0)
  c0 : W.cell? ⟨w.heap.size + 1, 0, none⟩ = some (.int .u64 (S : Int))
  c1 : W.cell? ⟨w.heap.size + 1, 1, none⟩ = some v
  q0 : W.frozen? ⟨w.heap.size, 0, none⟩ = false
  q1 : W.frozen? ⟨w.heap.size, 1, none⟩ = false
  f0 : W.frozen? ⟨w.heap.size + 1, 0, none⟩ = false
theorem tr_start (w : World) (v : Value) (T : TypeId) : TR w ((w.alloc (.cells #[.int .u64 0, .slice none 0 0] T)).alloc (.cells #[.int .u64 0, v] T)) 0 v := by
  have hA : (w.alloc (.cells #[.int .u64 0, .slice none 0 0] T)).heap.size = w.heap.size + 1 := World.size_alloc _ _
  have c : ∀ j, ((w.alloc (.cells #[.int .u64 0, .slice none 0 0] T)).alloc (.cells #[.int .u64 0, v] T)).cell? ⟨w.heap.size, j, none⟩ = (w.alloc (.cells #[.int .u64 0, .slice none 0 0] T)).cell? ⟨w.heap.size, j, none⟩ := fun j => World.cell?_alloc_past _ _ _ (by rw [hA]; omega)
  have f : ∀ j, ((w.alloc (.cells #[.int .u64 0, .slice none 0 0] T)).alloc (.cells #[.int .u64 0, v] T)).frozen? ⟨w.heap.size, j, none⟩ = (w.alloc (.cells #[.int .u64 0, .slice none 0 0] T)).frozen? ⟨w.heap.size, j, none⟩ := fun j => World.frozen?_alloc_past _ _ _ (by rw [hA]; omega)
  have n0 : ∀ (W : World) (x y : Value), (W.alloc (.cells #[x, y] T)).cell? ⟨W.heap.size, 0, none⟩ = some x := fun W x y => by simp
  have n1 : ∀ (W : World) (x y : Value), (W.alloc (.cells #[x, y] T)).cell? ⟨W.heap.size, 1, none⟩ = some y := fun W x y => by simp
  have nf : ∀ (W : World) (x y : Value), (W.alloc (.cells #[x, y] T)).frozen? ⟨W.heap.size, 0, none⟩ = false := fun W x y => by simp
  refine ⟨by repeat (first | exact Below.refl _ _ | assumption | refine Below.drew ?_ | refine belowDrewN ?_ _ | refine Below.alloc ?_ (by first | exact Nat.le_refl _ | omega | (simp; done) | (simp; omega)) _ | refine Below.setCell ?_ (by first | exact Nat.le_refl _ | omega | (simp; done) | (simp; omega)) _), by simp, (c 0).trans (by simp), (c 1).trans (by simp), ?_, ?_, (f 0).trans (by simp), (f 1).trans (by simp), ?_⟩
  · have := n0 (w.alloc (.cells #[.int .u64 0, .slice none 0 0] T)) (.int .u64 0) v; rw [hA] at this; exact this
  · have := n1 (w.alloc (.cells #[.int .u64 0, .slice none 0 0] T)) (.int .u64 0) v; rw [hA] at this; exact this
  · have := nf (w.alloc (.cells #[.int .u64 0, .slice none 0 0] T)) (.int .u64 0) v; rw [hA] at this; exact this
theorem TR.below {w W W' : World} {S : Nat} {v : Value} (h : TR w W S v) (hb : Below W.heap.size W W') : TR w W' S v := by
  have := h.big
  exact ⟨h.bel.trans (hb.mono h.bel.size), Nat.le_trans h.big hb.size, (hb.cell (p := ⟨w.heap.size, 0, none⟩) (by simp; omega)).trans h.r0, (hb.cell (p := ⟨w.heap.size, 1, none⟩) (by simp; omega)).trans h.r1,
    (hb.cell (p := ⟨w.heap.size + 1, 0, none⟩) (by simp; omega)).trans h.c0, (hb.cell (p := ⟨w.heap.size + 1, 1, none⟩) (by simp; omega)).trans h.c1,
    (hb.frozen (p := ⟨w.heap.size, 0, none⟩) (by simp; omega)).trans h.q0, (hb.frozen (p := ⟨w.heap.size, 1, none⟩) (by simp; omega)).trans h.q1, (hb.frozen (p := ⟨w.heap.size + 1, 0, none⟩) (by simp; omega)).trans h.f0⟩
theorem TR.put {w W : World} {S : Nat} {v : Value} (h : TR w W S v) (S' : Nat) : TR w (W.setCell ⟨w.heap.size + 1, 0, none⟩ (.int .u64 (S' : Int))).drew S' v := by
  have hk : ∀ j, (W.setCell ⟨w.heap.size + 1, 0, none⟩ (.int .u64 (S' : Int))).drew.cell? ⟨w.heap.size, j, none⟩ = W.cell? ⟨w.heap.size, j, none⟩ := fun j => World.cell?_of_block (Below.heap_setCell _ _ _ _ (by intro e; simp at e))
  have hf : ∀ j, (W.setCell ⟨w.heap.size + 1, 0, none⟩ (.int .u64 (S' : Int))).drew.frozen? ⟨w.heap.size, j, none⟩ = W.frozen? ⟨w.heap.size, j, none⟩ := fun j => World.frozen?_of_block (Below.heap_setCell _ _ _ _ (by intro e; simp at e))
  refine ⟨Below.drew (Below.setCell h.bel (by simp) _), by simpa using h.big, (hk 0).trans h.r0, (hk 1).trans h.r1, World.cell?_setCell_same _ _ _ h.c0, (World.cell?_setCell_other _ _ _ _ (by simp)).trans h.c1, (hf 0).trans h.q0, (hf 1).trans h.q1, by have := h.f0; rw [← World.frozen?_setCell (a := ⟨w.heap.size + 1, 0, none⟩) (v := .int .u64 (S' : Int))] at this; exact this⟩
theorem storesT {w1 : World} {B : Nat} {u0 u1 v0 v1 : Value} (h0 : w1.cell? ⟨B, 0, none⟩ = some u0) (h1 : w1.cell? ⟨B, 1, none⟩ = some u1) :
    ((w1.setCell ⟨B, 0, none⟩ v0).setCell ⟨B, 1, none⟩ v1).cell? ⟨B, 0, none⟩ = some v0 ∧ ((w1.setCell ⟨B, 0, none⟩ v0).setCell ⟨B, 1, none⟩ v1).cell? ⟨B, 1, none⟩ = some v1 := by
  refine ⟨?_, ?_⟩
  · rw [World.cell?_setCell_other _ _ _ _ (by simp)]; exact World.cell?_setCell_same _ _ _ h0
  · exact World.cell?_setCell_same _ _ _ ((World.cell?_setCell_other _ _ _ _ (by simp)).trans h1)
set_option maxRecDepth 100000 in
set_option maxHeartbeats 4000000 in
theorem readTrail_good (v : Value) (p : List Int) (w : World) (hv : IntsAt w v p) (hg : GoodP p) :
    Calls Tryz.prog 30 #[v] w fun e w' => ∃ S : Nat, e = .returned (.tuple #[.agg #[.int .u64 (S : Int), v], .nilIface]) ∧ S < 64 ∧ Below w.heap.size w w' := by
  obtain ⟨a, cap, rfl, hc, hm⟩ := hv.form
  obtain ⟨n, hn⟩ : ∃ n, p.length = n := ⟨_, rfl⟩
  rw [hn] at hc hv ⊢
  have H := Lib.hid hv
  have HN := Lib.hid hn
  have HG := Lib.hid hg
  clear hv hn hg
  go_enter Tryz.func30, Tryz.ntmps30
  have T0 := Lib.hid (tr_start w (.slice a n cap) 68)
  go_wp2_with fail
  go_loopg [11] n (fun gk s11 wr => ∃ k : Nat, s11 = .int .i64 (k : Int) ∧ k + gk = n ∧ Hid (TR w wr (setTo p k) (.slice a n cap)))
  case atStart => exact ⟨0, rfl, by omega, T0⟩
  case round =>
    clear T0
    obtain ⟨k, rfl, hk, T⟩ := hrel
    have hbig := T.out.big
    have r0 := T.out.r0
    have r1 := T.out.r1
    have c0 := T.out.c0
    have c1 := T.out.c1
    have q0 := T.out.q0
    have q1 := T.out.q1
    have f0 := T.out.f0
    have hbel := T.out.bel
    obtain ⟨S, hS⟩ : ∃ S, setTo p k = S := ⟨_, rfl⟩
    have hS64 : S < 64 := by rw [← hS]; exact setTo_lt HG.out.1 k (by rw [HN.out]; omega)
    rw [hS] at c0
    by_cases hg : gk = 0
    · subst hg
      obtain rfl : k = n := by omega
      have hdn : decide ((k : Int) < (k : Int)) = false := by simp
      go_wp2_with fail
      obtain ⟨z0, z1⟩ := storesT (w1 := wr) (v0 := .int .u64 (S : Int)) (v1 := .slice a k cap) r0 r1
      refine bodyPost_ret (v := .tuple #[.agg #[.int .u64 (S : Int), .slice a k cap], .nilIface]) (by simp [results, Tryz.results30, go_sem, z0, z1]) rfl ?_
      exact ⟨S, rfl, hS64, by repeat (first | exact Below.refl _ _ | assumption | refine Below.drew ?_ | refine belowDrewN ?_ _ | refine Below.alloc ?_ (by first | exact Nat.le_refl _ | omega | (simp; done) | (simp; omega)) _ | refine Below.setCell ?_ (by first | exact Nat.le_refl _ | omega | (simp; done) | (simp; omega)) _)⟩
    · have hkn : k < n := by omega
      have hkI : (k : Int) < (n : Int) := by omega
      have k0 : (0 : Int) ≤ (k : Int) := by omega
      have hgk : 1 ≤ gk := by omega
      have HK := Lib.hid hk
      obtain ⟨b, off, rfl, hb, hx⟩ := (H.out.below hbel).get k hkn
      obtain ⟨x, hxx⟩ : ∃ x, p.getD k 0 = x := ⟨_, rfl⟩
      have hx15 := HG.out.1 k (by rw [HN.out]; exact hkn)
      have hbit := goodP_bit HG.out (by rw [HN.out]; exact hkn : k < p.length)
      rw [hxx] at hx hx15 hbit
      have HX := Lib.hid hxx
      clear hxx
      rw [hS] at hbit
      obtain ⟨x1, x5⟩ := hx15
      have CH := Lib.hid (fun W => isHouse_any x W)
      have CT := Lib.hid (fun W => trailHas_any S hS64 (.slice (some ⟨b, off, none⟩) n cap) ⟨_, _, _, rfl⟩ x x1 x5 W)
      rw [hbit] at CT
      rw [decide_eq_true x1, decide_eq_true x5] at CH
      clear hk hg hbit
      go_wp2_with fail
      refine (CH.out _).mono ?_
      rintro e w1 ⟨rfl, rfl⟩
      go_wp2_with fail
      refine (CT.out _).mono ?_
      rintro e w2 ⟨rfl, hb2⟩
      have T2 := Lib.hid (T.out.below hb2)
      clear hb2
      rw [hS] at T2
      have d0 := T2.out.c0
      have d1 := T2.out.f0
      go_wp2_with fail
      go_region
      rw [or_has S hS64 x.toNat (by omega)]
      have hst : setTo p (k + 1) = S ||| 2 ^ x.toNat := by rw [setTo_succ (by rw [HN.out]; exact hkn), hS, HX.out]
      have TP := Lib.hid (T2.out.put (S ||| 2 ^ x.toNat))
      clear T2 d0 d1 T r0 r1 c0 c1 q0 q1 f0 hbel hbig
      go_wp2_with fail
      go_roundg (gk - 1)
      case measure => omega
      case rel => exact ⟨k + 1, by go_num, by have := HK.out; omega, by rw [hst]; exact TP⟩
end Go.Proofs.YtlpibfafpljedaaGreatDoor

namespace Go.Proofs.YtlpibfafpljedaaGreatDoor
open Go.RowKit
set_option linter.unusedVariables false

/-- the package's sentinel lies in its cell -/
def ErrOk (w : World) : Prop := ∃ a : Addr, w.cell? ⟨0, 0, none⟩ = some (.iface 115 (.pointer (some a)))
theorem ErrOk.below {w w' : World} (h : ErrOk w) (hb : Below w.heap.size w w') : ErrOk w' := by
  obtain ⟨a, ha⟩ := h
  have hlt : (0 : Nat) < w.heap.size := by
    rcases Nat.lt_or_ge (0 : Nat) w.heap.size with h' | h'
    · exact h'
    · simp only [World.cell?] at ha
      rw [Array.getElem?_eq_none h'] at ha
      cases ha
  exact ⟨a, (hb.cell (p := ⟨0, 0, none⟩) hlt).trans ha⟩
set_option maxRecDepth 100000 in
set_option maxHeartbeats 1000000 in
theorem errIs_nil (a : Addr) (w : World) : Calls Tryz.prog 31 #[.nilIface, .iface 115 (.pointer (some a))] w fun e w' => e = .returned (.bool false) ∧ w' = w := by
  go_enter Tryz.func31, Tryz.ntmps31
  go_wp2_with fail
  rw [run_eql_iface_nil_left _ 115 _ Tryz.underlying70]
  go_wp2_with fail
  go_ret
  exact ⟨rfl, rfl⟩
set_option maxRecDepth 100000 in
set_option maxHeartbeats 1000000 in
theorem pathOk_good (v : Value) (p : List Int) (w : World) (hv : IntsAt w v p) (hg : GoodP p) (hE : ErrOk w) : Calls Tryz.prog 13 #[v] w fun e w' => e = .returned (.bool true) ∧ Below w.heap.size w w' := by
  have HR := Lib.hid (readTrail_good v p w hv hg)
  obtain ⟨a, cap, rfl, hc, hm⟩ := hv.form
  have HE := Lib.hid hE
  clear hv hg hE
  go_enter Tryz.func13, Tryz.ntmps13
  go_wp2_with fail
  refine HR.out.mono ?_
  rintro e w1 ⟨S, rfl, hS, hb1⟩
  obtain ⟨ad, had⟩ := HE.out.below hb1
  have hglt : (0 : Nat) < w1.heap.size := by
    rcases Nat.lt_or_ge (0 : Nat) w1.heap.size with h' | h'
    · exact h'
    · simp only [World.cell?] at had
      rw [Array.getElem?_eq_none h'] at had
      cases had
  have B1 := Lib.hid hb1
  have HI := Lib.hid (errIs_nil ad)
  clear hb1 hS
  go_wp2_with fail
  refine (HI.out _).mono ?_
  rintro e w2 ⟨rfl, rfl⟩
  have B2 : Hid (Below w.heap.size w (w1.alloc (.cells #[.int .u64 (S : Int), .slice a p.length cap] 68))) := Lib.hid (Below.alloc B1.out B1.out.size _)
  go_wp2_with fail
  go_ret
  exact ⟨rfl, B2.out⟩
theorem IntsAt.dropAt {w : World} {b off n cap k : Nat} {l : List Int} (h : IntsAt w (.slice (some ⟨b, off, none⟩) n cap) l) (hk : k ≤ n) : IntsAt w (.slice (some ⟨b, off + k, none⟩) (n - k) (cap - k)) (l.drop k) := by
  obtain ⟨a', c', e, hc, hm, h⟩ := h
  simp only [Value.slice.injEq] at e
  obtain ⟨rfl, rfl, rfl⟩ := e
  have hl : (l.drop k).length = l.length - k := by rw [List.length_drop]
  unfold IntsAt
  rw [hl]
  refine ⟨_, cap - k, rfl, by omega, by omega, ?_⟩
  rcases h with h | ⟨b', off', e, hb, hcell⟩
  · left; omega
  · simp only [Option.some.injEq, Addr.mk.injEq] at e
    obtain ⟨rfl, rfl, _⟩ := e
    right
    refine ⟨b, off + k, rfl, hb, fun i hi => ?_⟩
    have e : (l.drop k).getD i 0 = l.getD (k + i) 0 := by simp
    have := hcell (k + i) (by omega)
    rw [← Nat.add_assoc] at this
    show _ = some (Value.int IntKind.i64 _)
    rw [e]; exact this
theorem IntsAt.dropIf {w : World} {b off n cap k : Nat} {l : List Int} (h : IntsAt w (.slice (some ⟨b, off, none⟩) n cap) l) (hk : k ≤ n) : IntsAt w (.slice (if cap = k then some ⟨b, off, none⟩ else some ⟨b, off + k, none⟩) (n - k) (cap - k)) (l.drop k) := by
  by_cases hck : cap = k
  · rw [if_pos hck]
    obtain ⟨a', c', e, hc, hm, _⟩ := h
    simp only [Value.slice.injEq] at e
    obtain ⟨rfl, rfl, rfl⟩ := e
    have hl : (l.drop k).length = l.length - k := by rw [List.length_drop]
    unfold IntsAt
    rw [hl]
    exact ⟨_, cap - k, rfl, by omega, by omega, .inl (by omega)⟩
  · rw [if_neg hck]; exact h.dropAt hk
end Go.Proofs.YtlpibfafpljedaaGreatDoor
