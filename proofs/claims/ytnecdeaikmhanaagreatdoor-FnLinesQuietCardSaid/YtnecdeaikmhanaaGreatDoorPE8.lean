/- A part of the proof; packed by a program of mine out of my texts. -/
import Derived.Test.YtnecdeaikmhanaaGreatDoorPE0
import Derived.Test.YtnecdeaikmhanaaGreatDoorPE1
import Derived.Test.YtnecdeaikmhanaaGreatDoorPE2
import Derived.Test.YtnecdeaikmhanaaGreatDoorPE3
import Derived.Test.YtnecdeaikmhanaaGreatDoorPE4
import Derived.Test.YtnecdeaikmhanaaGreatDoorPE5
import Derived.Test.YtnecdeaikmhanaaGreatDoorPE7
import Derived.Deep.LoopGhost
import Derived.Deep.RegionHeld3
import Derived.Deep.RegionWith
import Derived.LaidEql
import Derived.Maps.RangeWalk
import Derived.Maps.Views
import Derived.Maps.OwnOps
import Derived.DeepKeys4
import Derived.Carry
import Derived.LoopTactic
namespace Go.Proofs.YtnecdeaikmhanaaGreatDoor
open Go.RowKit
set_option linter.unusedVariables false
set_option maxHeartbeats 1000000 in
theorem isHouse_any (h : Int) (w : World) : Calls Tryz.prog 157 #[.int .i64 h] w fun e w' => e = .returned (.bool (decide (1 ≤ h) && decide (h ≤ 5))) ∧ w' = w := by
  by_cases h1 : 1 ≤ h
  · rw [decide_eq_true h1, Bool.true_and]
    go_enter Tryz.func157, Tryz.ntmps157
    go_wp2_with fail
    go_ret
    exact ⟨rfl, rfl⟩
  · rw [decide_eq_false h1, Bool.false_and]
    go_enter Tryz.func157, Tryz.ntmps157
    go_wp2_with fail
    go_ret
    exact ⟨rfl, rfl⟩
theorem bit_fin : ∀ S : Fin 64, ∀ h : Fin 6, (bits BinOp.and IntKind.u64 (((S : Nat) : Int) / 2 ^ (h : Nat)) 1 == 1) = (S : Nat).testBit (h : Nat) := by decide +kernel
theorem bit_has (S : Nat) (hS : S < 64) (h : Nat) (hh : h < 6) : (bits BinOp.and IntKind.u64 ((S : Int) / 2 ^ h) 1 == 1) = S.testBit h := bit_fin ⟨S, hS⟩ ⟨h, hh⟩
theorem or_fin : ∀ S : Fin 64, ∀ h : Fin 6, bits BinOp.or IntKind.u64 ((S : Nat) : Int) (IntKind.u64.wrap (2 ^ (h : Nat))) = (((S : Nat) ||| 2 ^ (h : Nat) : Nat) : Int) := by decide +kernel
theorem or_has (S : Nat) (hS : S < 64) (h : Nat) (hh : h < 6) : bits BinOp.or IntKind.u64 (S : Int) (IntKind.u64.wrap (2 ^ h)) = ((S ||| 2 ^ h : Nat) : Int) := or_fin ⟨S, hS⟩ ⟨h, hh⟩
def setTo (p : List Int) (k : Nat) : Nat := (p.take k).foldl (fun s h => s ||| 2 ^ h.toNat) 0
theorem setTo_succ {p : List Int} {k : Nat} (hk : k < p.length) : setTo p (k + 1) = setTo p k ||| 2 ^ (p.getD k 0).toNat := by
  unfold setTo
  rw [List.take_add_one, List.foldl_append, List.getD_eq_getElem?_getD, List.getElem?_eq_getElem hk]; rfl
theorem setTo_lt {p : List Int} (hp : ∀ j, j < p.length → 1 ≤ p.getD j 0 ∧ p.getD j 0 ≤ 5) : ∀ k, k ≤ p.length → setTo p k < 64
  | 0, _ => by simp [setTo]
  | k + 1, hk => by
    rw [setTo_succ (by omega)]
    have h1 := setTo_lt hp k (by omega)
    have h2 := hp k (by omega)
    have h3 : 2 ^ (p.getD k 0).toNat < 2 ^ 6 := Nat.pow_lt_pow_right (by omega) (by omega)
    exact Nat.or_lt_two_pow (n := 6) h1 h3
theorem setTo_bit {p : List Int} : ∀ (k : Nat), k ≤ p.length → ∀ b : Nat, (∀ j, j < k → (p.getD j 0).toNat ≠ b) → (setTo p k).testBit b = false
  | 0, _, b, _ => by simp [setTo]
  | k + 1, hk, b, h => by
    rw [setTo_succ (by omega), Nat.testBit_or, setTo_bit k (by omega) b (fun j hj => h j (by omega)), Nat.testBit_two_pow]
    have := h k (by omega)
    rw [decide_eq_false this]; rfl
set_option maxHeartbeats 1000000 in
theorem trailHas_any (S : Nat) (hS : S < 64) (v : Value) (hv : ∃ a n c, v = .slice a n c) (h : Int) (h1 : 1 ≤ h) (h5 : h ≤ 5) (w : World) : Calls Tryz.prog 158 #[.agg #[.int .u64 (S : Int), v], .int .i64 h] w fun e w' => e = .returned (.bool (S.testBit h.toNat)) ∧ Below w.heap.size w w' := by
  obtain ⟨a, n, c, rfl⟩ := hv
  have hh : ∀ W, Calls Tryz.prog 157 #[.int .i64 h] W fun e w' => e = .returned (.bool true) ∧ w' = W := fun W => by
    have := isHouse_any h W
    rw [decide_eq_true h1, decide_eq_true h5] at this
    exact this
  have HH := Lib.hid hh
  clear hh
  go_enter Tryz.func158, Tryz.ntmps158
  go_wp2_with fail
  refine (HH.out _).mono ?_
  rintro e w1 ⟨rfl, rfl⟩
  go_wp2_with fail
  go_ret
  obtain ⟨x, rfl⟩ : ∃ x : Nat, h = (x : Int) := ⟨h.toNat, by omega⟩
  exact ⟨by have := bit_has S hS x (by omega); simp only [Int.toNat_natCast]; rw [← this]; rfl, by exact bw⟩
def GoodP (p : List Int) : Prop := (∀ j, j < p.length → 1 ≤ p.getD j 0 ∧ p.getD j 0 ≤ 5) ∧ ∀ i j, i < j → j < p.length → p.getD i 0 ≠ p.getD j 0
theorem goodP_bit {p : List Int} (h : GoodP p) {k : Nat} (hk : k < p.length) : (setTo p k).testBit (p.getD k 0).toNat = false :=
  setTo_bit k (by omega) _ (fun j hj e => h.2 j k hj hk (by have := h.1 j (by omega); have := h.1 k hk; omega))
structure TR (w W : World) (S : Nat) (v : Value) : Prop where
  bel : Below w.heap.size w W
  big : w.heap.size + 2 ≤ W.heap.size
  r0 : W.cell? ⟨w.heap.size, 0, none⟩ = some (.int .u64 0)
  r1 : W.cell? ⟨w.heap.size, 1, none⟩ = some (.slice none 0 0)
  c0 : W.cell? ⟨w.heap.size + 1, 0, none⟩ = some (.int .u64 (S : Int))
  c1 : W.cell? ⟨w.heap.size + 1, 1, none⟩ = some v
  q0 : W.frozen? ⟨w.heap.size, 0, none⟩ = false
  q1 : W.frozen? ⟨w.heap.size, 1, none⟩ = false
  f0 : W.frozen? ⟨w.heap.size + 1, 0, none⟩ = false
theorem tr_start (w : World) (v : Value) (T : TypeId) : TR w ((w.alloc (.cells #[.int .u64 0, .slice none 0 0] T)).alloc (.cells #[.int .u64 0, v] T)) 0 v := by
  have hA : (w.alloc (.cells #[.int .u64 0, .slice none 0 0] T)).heap.size = w.heap.size + 1 := World.size_alloc _ _
  have c : ∀ j, ((w.alloc (.cells #[.int .u64 0, .slice none 0 0] T)).alloc (.cells #[.int .u64 0, v] T)).cell? ⟨w.heap.size, j, none⟩ = (w.alloc (.cells #[.int .u64 0, .slice none 0 0] T)).cell? ⟨w.heap.size, j, none⟩ := fun j => World.cell?_alloc_past _ _ _ (by rw [hA]; omega)
  have f : ∀ j, ((w.alloc (.cells #[.int .u64 0, .slice none 0 0] T)).alloc (.cells #[.int .u64 0, v] T)).frozen? ⟨w.heap.size, j, none⟩ = (w.alloc (.cells #[.int .u64 0, .slice none 0 0] T)).frozen? ⟨w.heap.size, j, none⟩ := fun j => World.frozen?_alloc_past _ _ _ (by rw [hA]; omega)
  have n0 : ∀ (W : World) (x y : Value), (W.alloc (.cells #[x, y] T)).cell? ⟨W.heap.size, 0, none⟩ = some x := fun W x y => by simp
  have n1 : ∀ (W : World) (x y : Value), (W.alloc (.cells #[x, y] T)).cell? ⟨W.heap.size, 1, none⟩ = some y := fun W x y => by simp
  have nf : ∀ (W : World) (x y : Value), (W.alloc (.cells #[x, y] T)).frozen? ⟨W.heap.size, 0, none⟩ = false := fun W x y => by simp
  refine ⟨by exact bw, by simp, (c 0).trans (by simp), (c 1).trans (by simp), ?_, ?_, (f 0).trans (by simp), (f 1).trans (by simp), ?_⟩
  · have := n0 (w.alloc (.cells #[.int .u64 0, .slice none 0 0] T)) (.int .u64 0) v; rw [hA] at this; exact this
  · have := n1 (w.alloc (.cells #[.int .u64 0, .slice none 0 0] T)) (.int .u64 0) v; rw [hA] at this; exact this
  · have := nf (w.alloc (.cells #[.int .u64 0, .slice none 0 0] T)) (.int .u64 0) v; rw [hA] at this; exact this
theorem TR.below {w W W' : World} {S : Nat} {v : Value} (h : TR w W S v) (hb : Below W.heap.size W W') : TR w W' S v := by
  have := h.big
  exact ⟨h.bel.trans (hb.mono h.bel.size), Nat.le_trans h.big hb.size, (hb.cell (p := ⟨w.heap.size, 0, none⟩) (by simp; omega)).trans h.r0, (hb.cell (p := ⟨w.heap.size, 1, none⟩) (by simp; omega)).trans h.r1,
    (hb.cell (p := ⟨w.heap.size + 1, 0, none⟩) (by simp; omega)).trans h.c0, (hb.cell (p := ⟨w.heap.size + 1, 1, none⟩) (by simp; omega)).trans h.c1,
    (hb.frozen (p := ⟨w.heap.size, 0, none⟩) (by simp; omega)).trans h.q0, (hb.frozen (p := ⟨w.heap.size, 1, none⟩) (by simp; omega)).trans h.q1, (hb.frozen (p := ⟨w.heap.size + 1, 0, none⟩) (by simp; omega)).trans h.f0⟩
theorem TR.put {w W : World} {S : Nat} {v : Value} (h : TR w W S v) (S' : Nat) : TR w (W.setCell ⟨w.heap.size + 1, 0, none⟩ (.int .u64 (S' : Int))).drew S' v := by
  have hk : ∀ j, (W.setCell ⟨w.heap.size + 1, 0, none⟩ (.int .u64 (S' : Int))).drew.cell? ⟨w.heap.size, j, none⟩ = W.cell? ⟨w.heap.size, j, none⟩ := fun j => World.cell?_of_block (Below.heap_setCell _ _ _ _ (by intro e; simp at e))
  have hf : ∀ j, (W.setCell ⟨w.heap.size + 1, 0, none⟩ (.int .u64 (S' : Int))).drew.frozen? ⟨w.heap.size, j, none⟩ = W.frozen? ⟨w.heap.size, j, none⟩ := fun j => World.frozen?_of_block (Below.heap_setCell _ _ _ _ (by intro e; simp at e))
  refine ⟨Below.drew (Below.setCell h.bel (by simp) _), by simpa using h.big, (hk 0).trans h.r0, (hk 1).trans h.r1, World.cell?_setCell_same _ _ _ h.c0, (World.cell?_setCell_other _ _ _ _ (by simp)).trans h.c1, (hf 0).trans h.q0, (hf 1).trans h.q1, by have := h.f0; rw [← World.frozen?_setCell (a := ⟨w.heap.size + 1, 0, none⟩) (v := .int .u64 (S' : Int))] at this; exact this⟩
theorem storesT {w1 : World} {B : Nat} {u0 u1 v0 v1 : Value} (h0 : w1.cell? ⟨B, 0, none⟩ = some u0) (h1 : w1.cell? ⟨B, 1, none⟩ = some u1) :
    ((w1.setCell ⟨B, 0, none⟩ v0).setCell ⟨B, 1, none⟩ v1).cell? ⟨B, 0, none⟩ = some v0 ∧ ((w1.setCell ⟨B, 0, none⟩ v0).setCell ⟨B, 1, none⟩ v1).cell? ⟨B, 1, none⟩ = some v1 := by
  refine ⟨?_, ?_⟩
  · rw [World.cell?_setCell_other _ _ _ _ (by simp)]; exact World.cell?_setCell_same _ _ _ h0
  · exact World.cell?_setCell_same _ _ _ ((World.cell?_setCell_other _ _ _ _ (by simp)).trans h1)
set_option maxRecDepth 100000 in
set_option maxHeartbeats 4000000 in
theorem readTrail_good (v : Value) (p : List Int) (w : World) (hv : IntsAt w v p) (hg : GoodP p) :
    Calls Tryz.prog 131 #[v] w fun e w' => ∃ S : Nat, e = .returned (.tuple #[.agg #[.int .u64 (S : Int), v], .nilIface]) ∧ S < 64 ∧ Below w.heap.size w w' := by
  obtain ⟨a, cap, rfl, hc, hm⟩ := hv.form
  obtain ⟨n, hn⟩ : ∃ n, p.length = n := ⟨_, rfl⟩
  rw [hn] at hc hv ⊢
  have H := Lib.hid hv
  have HN := Lib.hid hn
  have HG := Lib.hid hg
  clear hv hn hg
  go_enter Tryz.func131, Tryz.ntmps131
  have T0 := Lib.hid (tr_start w (.slice a n cap) 156)
  go_wp2_with fail
  go_loopg [11] n (fun gk s11 wr => ∃ k : Nat, s11 = .int .i64 (k : Int) ∧ k + gk = n ∧ Hid (TR w wr (setTo p k) (.slice a n cap)))
  case atStart => exact ⟨0, rfl, by omega, T0⟩
  case round =>
    clear T0
    obtain ⟨k, rfl, hk, T⟩ := hrel
    have hbig := T.out.big
    have r0 := T.out.r0
    have r1 := T.out.r1
    have c0 := T.out.c0
    have c1 := T.out.c1
    have q0 := T.out.q0
    have q1 := T.out.q1
    have f0 := T.out.f0
    have hbel := T.out.bel
    obtain ⟨S, hS⟩ : ∃ S, setTo p k = S := ⟨_, rfl⟩
    have hS64 : S < 64 := by rw [← hS]; exact setTo_lt HG.out.1 k (by rw [HN.out]; omega)
    rw [hS] at c0
    by_cases hg : gk = 0
    · subst hg
      obtain rfl : k = n := by omega
      have hdn : decide ((k : Int) < (k : Int)) = false := by simp
      go_wp2_with fail
      obtain ⟨z0, z1⟩ := storesT (w1 := wr) (v0 := .int .u64 (S : Int)) (v1 := .slice a k cap) r0 r1
      refine bodyPost_ret (v := .tuple #[.agg #[.int .u64 (S : Int), .slice a k cap], .nilIface]) (by simp [results, Tryz.results131, go_sem, z0, z1]) rfl ?_
      exact ⟨S, rfl, hS64, by exact bw⟩
    · have hkn : k < n := by omega
      have hkI : (k : Int) < (n : Int) := by omega
      have k0 : (0 : Int) ≤ (k : Int) := by omega
      have hgk : 1 ≤ gk := by omega
      have HK := Lib.hid hk
      obtain ⟨b, off, rfl, hb, hx⟩ := (H.out.below hbel).get k hkn
      obtain ⟨x, hxx⟩ : ∃ x, p.getD k 0 = x := ⟨_, rfl⟩
      have hx15 := HG.out.1 k (by rw [HN.out]; exact hkn)
      have hbit := goodP_bit HG.out (by rw [HN.out]; exact hkn : k < p.length)
      rw [hxx] at hx hx15 hbit
      have HX := Lib.hid hxx
      clear hxx
      rw [hS] at hbit
      obtain ⟨x1, x5⟩ := hx15
      have CH := Lib.hid (fun W => isHouse_any x W)
      have CT := Lib.hid (fun W => trailHas_any S hS64 (.slice (some ⟨b, off, none⟩) n cap) ⟨_, _, _, rfl⟩ x x1 x5 W)
      rw [hbit] at CT
      rw [decide_eq_true x1, decide_eq_true x5] at CH
      clear hk hg hbit
      go_wp2_with fail
      refine (CH.out _).mono ?_
      rintro e w1 ⟨rfl, rfl⟩
      go_wp2_with fail
      refine (CT.out _).mono ?_
      rintro e w2 ⟨rfl, hb2⟩
      have T2 := Lib.hid (T.out.below hb2)
      clear hb2
      rw [hS] at T2
      have d0 := T2.out.c0
      have d1 := T2.out.f0
      go_wp2_with fail
      go_region
      rw [or_has S hS64 x.toNat (by omega)]
      have hst : setTo p (k + 1) = S ||| 2 ^ x.toNat := by rw [setTo_succ (by rw [HN.out]; exact hkn), hS, HX.out]
      have TP := Lib.hid (T2.out.put (S ||| 2 ^ x.toNat))
      clear T2 d0 d1 T r0 r1 c0 c1 q0 q1 f0 hbel hbig
      go_wp2_with fail
      go_roundg (gk - 1)
      case measure => omega
      case rel => exact ⟨k + 1, by go_num, by have := HK.out; omega, by rw [hst]; exact TP⟩
end Go.Proofs.YtnecdeaikmhanaaGreatDoor
namespace Go.Proofs.YtnecdeaikmhanaaGreatDoor
open Go.RowKit
set_option linter.unusedVariables false
def ErrOk (w : World) : Prop := ∃ a : Addr, w.cell? ⟨1, 0, none⟩ = some (.iface 211 (.pointer (some a)))
theorem ErrOk.below {w w' : World} (h : ErrOk w) (hb : Below w.heap.size w w') : ErrOk w' := by
  obtain ⟨a, ha⟩ := h
  have hlt : (1 : Nat) < w.heap.size := by
    rcases Nat.lt_or_ge (1 : Nat) w.heap.size with h' | h'
    · exact h'
    · simp only [World.cell?] at ha
      rw [Array.getElem?_eq_none h'] at ha
      cases ha
  exact ⟨a, (hb.cell (p := ⟨1, 0, none⟩) hlt).trans ha⟩
set_option maxRecDepth 100000 in
set_option maxHeartbeats 1000000 in
theorem errIs_nil (a : Addr) (w : World) : Calls Tryz.prog 132 #[.nilIface, .iface 211 (.pointer (some a))] w fun e w' => e = .returned (.bool false) ∧ w' = w := by
  go_enter Tryz.func132, Tryz.ntmps132
  go_wp2_with fail
  rw [run_eql_iface_nil_left _ 211 _ Tryz.underlying133]
  go_wp2_with fail
  go_ret
  exact ⟨rfl, rfl⟩
set_option maxRecDepth 100000 in
set_option maxHeartbeats 1000000 in
theorem pathOk_good (v : Value) (p : List Int) (w : World) (hv : IntsAt w v p) (hg : GoodP p) (hE : ErrOk w) : Calls Tryz.prog 101 #[v] w fun e w' => e = .returned (.bool true) ∧ Below w.heap.size w w' := by
  have HR := Lib.hid (readTrail_good v p w hv hg)
  obtain ⟨a, cap, rfl, hc, hm⟩ := hv.form
  have HE := Lib.hid hE
  clear hv hg hE
  go_enter Tryz.func101, Tryz.ntmps101
  go_wp2_with fail
  refine HR.out.mono ?_
  rintro e w1 ⟨S, rfl, hS, hb1⟩
  obtain ⟨ad, had⟩ := HE.out.below hb1
  have hglt : (1 : Nat) < w1.heap.size := by
    rcases Nat.lt_or_ge (1 : Nat) w1.heap.size with h' | h'
    · exact h'
    · simp only [World.cell?] at had
      rw [Array.getElem?_eq_none h'] at had
      cases had
  have B1 := Lib.hid hb1
  have HI := Lib.hid (errIs_nil ad)
  clear hb1 hS
  go_wp2_with fail
  refine (HI.out _).mono ?_
  rintro e w2 ⟨rfl, rfl⟩
  have B2 : Hid (Below w.heap.size w (w1.alloc (.cells #[.int .u64 (S : Int), .slice a p.length cap] 156))) := Lib.hid (Below.alloc B1.out B1.out.size _)
  go_wp2_with fail
  go_ret
  exact ⟨rfl, B2.out⟩
theorem IntsAt.dropAt {w : World} {b off n cap k : Nat} {l : List Int} (h : IntsAt w (.slice (some ⟨b, off, none⟩) n cap) l) (hk : k ≤ n) : IntsAt w (.slice (some ⟨b, off + k, none⟩) (n - k) (cap - k)) (l.drop k) := by
  obtain ⟨a', c', e, hc, hm, h⟩ := h
  simp only [Value.slice.injEq] at e
  obtain ⟨rfl, rfl, rfl⟩ := e
  have hl : (l.drop k).length = l.length - k := by rw [List.length_drop]
  unfold IntsAt
  rw [hl]
  refine ⟨_, cap - k, rfl, by omega, by omega, ?_⟩
  rcases h with h | ⟨b', off', e, hb, hcell⟩
  · left; omega
  · simp only [Option.some.injEq, Addr.mk.injEq] at e
    obtain ⟨rfl, rfl, _⟩ := e
    right
    refine ⟨b, off + k, rfl, hb, fun i hi => ?_⟩
    have e : (l.drop k).getD i 0 = l.getD (k + i) 0 := by simp
    have := hcell (k + i) (by omega)
    rw [← Nat.add_assoc] at this
    show _ = some (Value.int IntKind.i64 _)
    rw [e]; exact this
theorem IntsAt.dropIf {w : World} {b off n cap k : Nat} {l : List Int} (h : IntsAt w (.slice (some ⟨b, off, none⟩) n cap) l) (hk : k ≤ n) : IntsAt w (.slice (if cap = k then some ⟨b, off, none⟩ else some ⟨b, off + k, none⟩) (n - k) (cap - k)) (l.drop k) := by
  by_cases hck : cap = k
  · rw [if_pos hck]
    obtain ⟨a', c', e, hc, hm, _⟩ := h
    simp only [Value.slice.injEq] at e
    obtain ⟨rfl, rfl, rfl⟩ := e
    have hl : (l.drop k).length = l.length - k := by rw [List.length_drop]
    unfold IntsAt
    rw [hl]
    exact ⟨_, cap - k, rfl, by omega, by omega, .inl (by omega)⟩
  · rw [if_neg hck]; exact h.dropAt hk
end Go.Proofs.YtnecdeaikmhanaaGreatDoor
namespace Go.Proofs.YtnecdeaikmhanaaGreatDoor
open Go.RowKit Go.Maps
set_option linter.unusedVariables false
set_option maxRecDepth 100000
theorem cp_laid : laidOutB Tryz.prog = true := by kernel_rfl
theorem cp_row : (154 : TypeId) < Tryz.prog.types.size := of_decide_eq_true (by kernel_rfl)
theorem cp_deep : Tryz.prog.keyTypeAt (Tryz.prog.types.size + 1) 154 = true := by kernel_rfl
theorem cp_wide : (match Tryz.prog.underlying 154 with | some (.array _ _) | some (.struct _) => true | _ => false) = true := by kernel_rfl
set_option maxRecDepth 100000 in
theorem cp_law : Keyed Tryz.prog 154 := Keyed.of_law (deep_law_laid cp_laid (m := 2) (by omega) cp_row (by kernel_rfl) cp_wide)
theorem cp_cells : Tryz.prog.cellsOf 154 = 2 := by kernel_rfl
theorem cp_int : Tryz.prog.cellsOf 3 = 1 := by kernel_rfl
theorem cp_zero (w : World) : (zeroValue 3).run Tryz.prog w = .ok (.int .i64 0) w := by kernel_rfl
theorem succ_of {n m : Nat} (h : n < m) : ∃ d, m = d + 1 := ⟨m - 1, by omega⟩
set_option maxRecDepth 100000 in
theorem cp_size : ∃ d, Tryz.prog.types.size = d + 1 := succ_of cp_row
def ck (a b : Int) : Lit := .string (keyBytes [.int .i64 a, .int .i64 b])
theorem cp_key {a b : Int} (ha : (Lit.int .i64 a).wf = true) (hb : (Lit.int .i64 b).wf = true) : keyOf Tryz.prog 154 (.agg #[.int .i64 a, .int .i64 b]) = some (ck a b) := by
  unfold keyOf
  simp only [Tryz.underlying154]
  have h1 : Tryz.prog.keyType 154 = true := cp_deep
  have h2 : (Value.agg #[.int .i64 a, .int .i64 b]).formed Tryz.prog 154 = true := by simp [Value.formed, Tryz.underlying154, cp_cells]
  rw [h1, h2]
  obtain ⟨d, hd⟩ := cp_size
  rw [hd]
  simp [Program.keyLits, Tryz.underlying154, Tryz.underlying3, cp_cells, cp_int, ha, hb, ck, Value.cells]
theorem ck_inj {a b a' b' : Int} (ha : (Lit.int .i64 a).wf = true) (hb : (Lit.int .i64 b).wf = true) (ha' : (Lit.int .i64 a').wf = true) (hb' : (Lit.int .i64 b').wf = true) (h : ck a b = ck a' b') : a = a' ∧ b = b' := by
  have e1 := cp_key ha hb
  have e2 := cp_key ha' hb'
  rw [h] at e1
  have := cp_law.inj e1 e2
  simpa using this
theorem cp_inv {key : Value} {kl : Lit} (h : keyOf Tryz.prog 154 key = some kl) : ∃ x : Int × Int, key = .agg #[.int .i64 x.1, .int .i64 x.2] ∧ kl = ck x.1 x.2 ∧ (Lit.int .i64 x.1).wf = true ∧ (Lit.int .i64 x.2).wf = true := by
  unfold keyOf at h
  simp only [Tryz.underlying154] at h
  split at h
  · rename_i hf
    rw [Bool.and_eq_true] at hf
    have hform := hf.2
    unfold Value.formed at hform
    split at hform
    · simp only [Tryz.underlying154, cp_cells, beq_iff_eq] at hform
      rename_i cs
      obtain ⟨l⟩ := cs
      match l, hform with
      | [c0, c1], _ =>
        obtain ⟨d, hd⟩ := cp_size
        rw [hd] at h
        simp [Program.keyLits, Tryz.underlying154, Tryz.underlying3, cp_cells, cp_int, Value.cells] at h
        cases c0 <;> simp at h
        rename_i q0 a _
        by_cases hc : q0 = IntKind.i64 ∧ (Lit.int IntKind.i64 a).wf = true
        · obtain ⟨rfl, hwa⟩ := hc
          simp [hwa] at h
          cases c1 <;> simp at h
          rename_i q1 b _
          by_cases hc : q1 = IntKind.i64 ∧ (Lit.int IntKind.i64 b).wf = true
          · obtain ⟨rfl, hwb⟩ := hc
            simp [hwb] at h
            exact ⟨(a, b), rfl, h.symm, hwa, hwb⟩
          · simp [hc] at h
        · simp [hc] at h
    · cases hform
    · rw [Tryz.underlying154] at hform
      cases hform
  · cases h
end Go.Proofs.YtnecdeaikmhanaaGreatDoor
namespace Go.Proofs.YtnecdeaikmhanaaGreatDoor
open Go.RowKit Go.Maps
set_option linter.unusedVariables false
set_option maxRecDepth 100000
def valTo (rs : List (List Int)) (n i k : Nat) (a b : Int) : Int := if 1 ≤ a ∧ 1 ≤ b ∧ b ≤ (n : Int) ∧ (a ≤ (i : Int) ∨ (a = (i : Int) + 1 ∧ b ≤ (k : Int))) then relAt rs (a - 1).toNat (b - 1).toNat else 0
theorem valTo_step {rs : List (List Int)} {n i k : Nat} (hk : k < n) : valTo rs n i (k + 1) = fun a b => if a = (i : Int) + 1 ∧ b = (k : Int) + 1 then relAt rs i k else valTo rs n i k a b := by
  funext a b
  unfold valTo
  by_cases h : a = (i : Int) + 1 ∧ b = (k : Int) + 1
  · obtain ⟨rfl, rfl⟩ := h
    rw [if_pos (by omega), if_pos ⟨rfl, rfl⟩]
    congr 1 <;> omega
  · rw [if_neg h]
    by_cases h2 : 1 ≤ a ∧ 1 ≤ b ∧ b ≤ (n : Int) ∧ (a ≤ (i : Int) ∨ (a = (i : Int) + 1 ∧ b ≤ (k : Int)))
    · rw [if_pos h2, if_pos (by omega)]
    · rw [if_neg h2, if_neg (by omega)]
theorem valTo_zero {rs : List (List Int)} {n i k : Nat} (hk : k < n) (h0 : relAt rs i k = 0) : valTo rs n i (k + 1) = valTo rs n i k := by
  rw [valTo_step hk]
  funext a b
  by_cases h : a = (i : Int) + 1 ∧ b = (k : Int) + 1
  · rw [if_pos h, h0]
    unfold valTo
    rw [if_neg (by omega)]
  · rw [if_neg h]
theorem valTo_row {rs : List (List Int)} {n i : Nat} : valTo rs n i n = valTo rs n (i + 1) 0 := by
  funext a b
  unfold valTo
  by_cases h : 1 ≤ a ∧ 1 ≤ b ∧ b ≤ (n : Int) ∧ (a ≤ (i : Int) ∨ (a = (i : Int) + 1 ∧ b ≤ (n : Int)))
  · rw [if_pos h, if_pos (by omega)]
  · rw [if_neg h, if_neg (by omega)]
theorem valTo_none {rs : List (List Int)} {n : Nat} : valTo rs n 0 0 = fun _ _ => 0 := by
  funext a b
  unfold valTo
  rw [if_neg (by omega)]
theorem valTo_all {rs : List (List Int)} {n i k : Nat} (hi : i < n) (hk : k < n) : valTo rs n n 0 ((i : Int) + 1) ((k : Int) + 1) = relAt rs i k := by
  unfold valTo
  rw [if_pos (by omega)]
  congr 1 <;> omega
theorem valTo_in {rs : List (List Int)} {n : Nat} {a b : Int} (h : valTo rs n n 0 a b ≠ 0) : ∃ i k : Nat, i < n ∧ k < n ∧ a = (i : Int) + 1 ∧ b = (k : Int) + 1 := by
  unfold valTo at h
  split at h
  · rename_i hc
    exact ⟨(a - 1).toNat, (b - 1).toNat, by omega, by omega, by omega, by omega⟩
  · exact absurd rfl h
def Reads (D : DataW Unit) (val : Int → Int → Int) : Prop := IsMap D ∧ ∀ a b zd, (Lit.int .i64 a).wf = true → (Lit.int .i64 b).wf = true → D.atKey (ck a b) zd = if val a b ≠ 0 then .lit (.int .i64 (val a b)) else zd
theorem reads_empty : Reads (.map []) (fun _ _ => 0) := ⟨isMap_empty, fun a b zd _ _ => by simp [DataW.atKey]⟩
theorem Reads.put {D : DataW Unit} {val : Int → Int → Int} (h : Reads D val) {i k c : Int} (hi : (Lit.int .i64 i).wf = true) (hk : (Lit.int .i64 k).wf = true) (hc : c ≠ 0) :
    Reads (D.put (ck i k) (.lit (.int .i64 c))) (fun a b => if a = i ∧ b = k then c else val a b) := by
  refine ⟨h.1.put _ _, fun a b zd ha hb => ?_⟩
  show _ = if (if a = i ∧ b = k then c else val a b) ≠ 0 then DataW.lit (.int .i64 (if a = i ∧ b = k then c else val a b)) else zd
  by_cases hab : a = i ∧ b = k
  · obtain ⟨rfl, rfl⟩ := hab
    have e : (if a = a ∧ b = b then c else val a b) = c := if_pos ⟨rfl, rfl⟩
    rw [atKey_put_same h.1 (cp_law.key (cp_key ha hb)), e, if_pos hc]
  · rw [atKey_put_other (fun e => hab (ck_inj ha hb hi hk e)), if_neg hab]
    exact h.2 a b zd ha hb
theorem Reads.look {D : DataW Unit} {val : Int → Int → Int} (h : Reads D val) {a b c : Int} (ha : (Lit.int .i64 a).wf = true) (hb : (Lit.int .i64 b).wf = true) (hat : D.atKey (ck a b) (.lit (.int .i64 0)) = .lit (.int .i64 c)) : c = val a b := by
  rw [h.2 a b _ ha hb] at hat
  split at hat
  · simpa using hat.symm
  · rename_i h0
    have : (0 : Int) = c := by simpa using hat
    have h0 : val a b = 0 := by simpa using h0
    omega
theorem Reads.here {D : DataW Unit} {val : Int → Int → Int} (h : Reads D val) {a b : Int} (ha : (Lit.int .i64 a).wf = true) (hb : (Lit.int .i64 b).wf = true) (hv : val a b ≠ 0) : Maps.has D (ck a b) = true :=
  has_true_of_atKey (y := .lit (.int .i64 (val a b))) fun z => by rw [h.2 a b z ha hb, if_pos hv]
theorem Reads.entry {D : DataW Unit} {val : Int → Int → Int} (h : Reads D val) {a b c : Int} (ha : (Lit.int .i64 a).wf = true) (hb : (Lit.int .i64 b).wf = true) (hat : ∀ zd, D.atKey (ck a b) zd = .lit (.int .i64 c)) : c = val a b ∧ val a b ≠ 0 := by
  have h0 := h.look ha hb (hat _)
  refine ⟨h0, fun hv => ?_⟩
  have := hat (.lit (.bool true))
  rw [h.2 a b _ ha hb, if_neg (by simpa using hv)] at this
  simp at this
def coupleOk (rs : List (List Int)) (n : Nat) (a b : Int) : Prop := a ≠ b ∧ valTo rs n n 0 b a = backF (valTo rs n n 0 a b)
theorem rels_all {rs : List (List Int)} {n : Nat} (hn : rs.length = n) (h1 : 1 ≤ n) (h5 : n ≤ 5) (hrow : ∀ i, i < n → (rs.getD i []).length = n ∧ ∀ k, k < n → 0 ≤ relAt rs i k ∧ relAt rs i k ≤ 3)
    (hall : ∀ i k : Nat, i < n → k < n → relAt rs i k ≠ 0 → coupleOk rs n ((i : Int) + 1) ((k : Int) + 1)) : relsOkF rs = true := by
  rw [relsOk_good hn (fun i hi => ⟨(hrow i hi).1, fun k hk => ?_⟩), decide_eq_true h1, decide_eq_true h5]; rfl
  have hr := (hrow i hi).2 k hk
  have hr2 := (hrow k hk).2 i hi
  unfold relOkF
  rw [(hrow k hk).1, decide_eq_true rfl, decide_eq_true hr.1, decide_eq_true hr.2]
  by_cases h0 : relAt rs i k = 0
  · have h0' : relAt rs k i = 0 := by
      by_cases hne : relAt rs k i = 0
      · exact hne
      · have := (hall k i hk hi hne).2
        rw [valTo_all hi hk, valTo_all hk hi, h0] at this
        unfold backF at this
        split at this
        · cases this
        · split at this
          · cases this
          · exact this.symm
    rw [h0, h0']
    simp [backF]
  · obtain ⟨c1, c2⟩ := hall i k hi hk h0
    rw [valTo_all hk hi, valTo_all hi hk] at c2
    have hik : i ≠ k := by intro e; subst e; exact c1 rfl
    simp [c2, hik]
theorem rels_bad {rs : List (List Int)} {n i k : Nat} (hn : rs.length = n) (hi : i < n) (hk : k < n) (h0 : relAt rs i k ≠ 0) (hb : ¬ coupleOk rs n ((i : Int) + 1) ((k : Int) + 1)) : relsOkF rs = false := by
  refine relsOk_bad2 hn hi hk ?_
  unfold relOkF
  by_cases hik : i = k
  · subst hik
    simp [h0]
  · have : ¬ relAt rs k i = backF (relAt rs i k) := fun e => hb ⟨by omega, by rw [valTo_all hk hi, valTo_all hi hk]; exact e⟩
    simp [this]
theorem rels_cell {rs : List (List Int)} {n i k : Nat} (hn : rs.length = n) (hi : i < n) (hk : k < n) (hb : ¬ (0 ≤ relAt rs i k ∧ relAt rs i k ≤ 3)) : relsOkF rs = false := by
  refine relsOk_bad2 hn hi hk ?_
  unfold relOkF
  have : (decide (0 ≤ relAt rs i k) && decide (relAt rs i k ≤ 3)) = false := by
    rw [Bool.and_eq_false_iff, decide_eq_false_iff_not, decide_eq_false_iff_not]
    omega
  simp only [this]
  simp
theorem rels_size {rs : List (List Int)} {n : Nat} (hn : rs.length = n) (hb : ¬ (1 ≤ n ∧ n ≤ 5)) : relsOkF rs = false := by
  unfold relsOkF
  rw [hn]
  have : (decide (1 ≤ n) && decide (n ≤ 5)) = false := by
    rw [Bool.and_eq_false_iff, decide_eq_false_iff_not, decide_eq_false_iff_not]
    omega
  rw [this, Bool.and_false]
structure RR (w W : World) (n cnt : Nat) (val : Int → Int → Int) : Prop where
  bel : Below w.heap.size w W
  big : w.heap.size + 3 ≤ W.heap.size
  r0 : W.cell? ⟨w.heap.size, 0, none⟩ = some (.int .i64 0)
  r1 : W.cell? ⟨w.heap.size, 1, none⟩ = some (.map none)
  q0 : W.frozen? ⟨w.heap.size, 0, none⟩ = false
  q1 : W.frozen? ⟨w.heap.size, 1, none⟩ = false
  c0 : W.cell? ⟨w.heap.size + 2, 0, none⟩ = some (.int .i64 n)
  c1 : W.cell? ⟨w.heap.size + 2, 1, none⟩ = some (.map (some (w.heap.size + 1)))
  own : ∃ D : DataW Unit, W.ownsMap Tryz.prog 154 (plainElem Tryz.prog 3) (w.heap.size + 1) cnt D ∧ Reads D val
theorem RR.grown {w W W' : World} {n cnt cnt' : Nat} {val val' : Int → Int → Int} (h : RR w W n cnt val) {g : Nat} (hg : W.grownBy W' (some g)) (hlo : g ≠ w.heap.size ∧ g ≠ w.heap.size + 2 ∧ w.heap.size ≤ g)
    (ho : ∃ D : DataW Unit, W'.ownsMap Tryz.prog 154 (plainElem Tryz.prog 3) (w.heap.size + 1) cnt' D ∧ Reads D val') : RR w W' n cnt' val' := by
  have hbig := h.big
  have k0 : W'.heap[w.heap.size]? = W.heap[w.heap.size]? := hg.block _ (by omega) (by intro e; cases e; exact hlo.1 rfl)
  have k2 : W'.heap[w.heap.size + 2]? = W.heap[w.heap.size + 2]? := hg.block _ (by omega) (by intro e; cases e; exact hlo.2.1 rfl)
  exact ⟨h.bel.grown hg h.bel.size (fun j hj => by cases hj; exact hlo.2.2), Nat.le_trans hbig hg.size,
    (World.cell?_of_block k0).trans h.r0, (World.cell?_of_block k0).trans h.r1, (World.frozen?_of_block k0).trans h.q0, (World.frozen?_of_block k0).trans h.q1,
    (World.cell?_of_block k2).trans h.c0, (World.cell?_of_block k2).trans h.c1, ho⟩
theorem RR.below {w W W' : World} {n cnt : Nat} {val : Int → Int → Int} (h : RR w W n cnt val) (hb : Below W.heap.size W W') : RR w W' n cnt val := by
  have hbig := h.big
  obtain ⟨D, o1, o2⟩ := h.own
  have hg : W.grownBy W' none := ⟨hb.os, hb.tape, hb.output, hb.size, fun k hk _ => hb.block k hk⟩
  exact ⟨h.bel.trans (hb.mono h.bel.size), Nat.le_trans hbig hb.size, (hb.cell (p := ⟨w.heap.size, 0, none⟩) (by simp; omega)).trans h.r0, (hb.cell (p := ⟨w.heap.size, 1, none⟩) (by simp; omega)).trans h.r1,
    (hb.frozen (p := ⟨w.heap.size, 0, none⟩) (by simp; omega)).trans h.q0, (hb.frozen (p := ⟨w.heap.size, 1, none⟩) (by simp; omega)).trans h.q1,
    (hb.cell (p := ⟨w.heap.size + 2, 0, none⟩) (by simp; omega)).trans h.c0, (hb.cell (p := ⟨w.heap.size + 2, 1, none⟩) (by simp; omega)).trans h.c1, D, o1.kept hg (by simp), o2⟩
theorem RR.mono {w W : World} {n cnt cnt' : Nat} {val : Int → Int → Int} (h : RR w W n cnt val) (hc : cnt ≤ cnt') : RR w W n cnt' val := by
  obtain ⟨D, o1, o2⟩ := h.own
  exact ⟨h.bel, h.big, h.r0, h.r1, h.q0, h.q1, h.c0, h.c1, D, o1.mono hc, o2⟩
theorem own_set2 {w : World} {b n g : Nat} {D : DataW Unit} {u0 u1 : Value} (h : w.ownsMap Tryz.prog 154 (plainElem Tryz.prog 3) b n D) (hne : b ≠ g) : ((w.setCell ⟨g, 0, none⟩ u0).setCell ⟨g, 1, none⟩ u1).ownsMap Tryz.prog 154 (plainElem Tryz.prog 3) b n D :=
  h.kept (row := some g) ⟨rfl, rfl, rfl, by simp [World.setCell], fun k _ hk => (Below.heap_setCell _ _ _ _ (by intro e; exact hk (by rw [e]))).trans (Below.heap_setCell _ _ _ _ (by intro e; exact hk (by rw [e])))⟩ (by simpa using hne)
theorem ranges_drew {W : World} {b r n cnt : Nat} {D : DataW Unit} {left : Lit → Bool} (h : W.ranges Tryz.prog 154 (plainElem Tryz.prog 3) b r n D left cnt) : W.drew.ranges Tryz.prog 154 (plainElem Tryz.prog 3) b r n D left cnt := h
theorem ranges_left_drew (W : World) (b r : Nat) : W.drew.rangeLeft b r = W.rangeLeft b r := rfl
def ReadPost (rs : List (List Int)) (w : World) (e : Ending) (w' : World) : Prop :=
  ∃ (m : Int) (ob : Option Nat), e = .returned (.tuple #[.agg #[.int .i64 m, .map ob], .bool (relsOkF rs)]) ∧ Below w.heap.size w w' ∧
    (relsOkF rs = true → m = (rs.length : Int) ∧ ∃ (B cnt : Nat) (D : DataW Unit), ob = some B ∧ w.heap.size ≤ B ∧ cnt ≤ 100 ∧ w'.ownsMap Tryz.prog 154 (plainElem Tryz.prog 3) B cnt D ∧ Reads D (valTo rs rs.length rs.length 0))
theorem readPost_no {rs : List (List Int)} {w w' : World} (h : relsOkF rs = false) (hb : Below w.heap.size w w') : ReadPost rs w (.returned (.tuple #[.agg #[.int .i64 0, .map none], .bool false])) w' :=
  ⟨0, none, by rw [h], hb, fun h' => by rw [h] at h'; cases h'⟩
theorem readPost_yes {rs : List (List Int)} {w w' : World} {n B cnt : Nat} {D : DataW Unit} (h : relsOkF rs = true) (hn : rs.length = n) (hb : Below w.heap.size w w') (hB : w.heap.size ≤ B) (hc : cnt ≤ 100) (ho : w'.ownsMap Tryz.prog 154 (plainElem Tryz.prog 3) B cnt D) (hr : Reads D (valTo rs n n 0)) :
    ReadPost rs w (.returned (.tuple #[.agg #[.int .i64 (n : Int), .map (some B)], .bool true])) w' :=
  ⟨n, some B, by rw [h], hb, fun _ => ⟨by rw [hn], B, cnt, D, rfl, hB, hc, ho, by rw [hn]; exact hr⟩⟩
theorem cell_two0 (W : World) (x y : Value) (T : TypeId) : (W.alloc (.cells #[x, y] T)).cell? ⟨W.heap.size, 0, none⟩ = some x := by simp
theorem cell_two1 (W : World) (x y : Value) (T : TypeId) : (W.alloc (.cells #[x, y] T)).cell? ⟨W.heap.size, 1, none⟩ = some y := by simp
theorem rr_start (w : World) (n : Nat) : RR w (((w.alloc (.cells #[.int .i64 0, .map none] 120)).alloc (.map #[] 0)).alloc (.cells #[.int .i64 (n : Int), .map (some (w.heap.size + 1))] 120)) n 0 (fun _ _ => 0) := by
  have hA : (w.alloc (.cells #[.int .i64 0, .map none] 120)).heap.size = w.heap.size + 1 := World.size_alloc _ _
  have ho := World.ownsMap_made (w.alloc (.cells #[.int .i64 0, .map none] 120)) Tryz.prog 154 (plainElem (H := Unit) Tryz.prog 3)
  rw [hA] at ho
  have hM : ((w.alloc (.cells #[.int .i64 0, .map none] 120)).alloc (.map #[] 0)).heap.size = w.heap.size + 2 := by rw [World.size_alloc, hA]
  have c : ∀ j, (((w.alloc (.cells #[.int .i64 0, .map none] 120)).alloc (.map #[] 0)).alloc (.cells #[.int .i64 (n : Int), .map (some (w.heap.size + 1))] 120)).cell? ⟨w.heap.size, j, none⟩ = ((w.alloc (.cells #[.int .i64 0, .map none] 120)).alloc (.map #[] 0)).cell? ⟨w.heap.size, j, none⟩ := fun j => World.cell?_alloc_past _ _ _ (by rw [hM]; omega)
  have c' : ∀ j, ((w.alloc (.cells #[.int .i64 0, .map none] 120)).alloc (.map #[] 0)).cell? ⟨w.heap.size, j, none⟩ = (w.alloc (.cells #[.int .i64 0, .map none] 120)).cell? ⟨w.heap.size, j, none⟩ := fun j => World.cell?_alloc_past _ _ _ (by rw [hA]; omega)
  have f : ∀ j, (((w.alloc (.cells #[.int .i64 0, .map none] 120)).alloc (.map #[] 0)).alloc (.cells #[.int .i64 (n : Int), .map (some (w.heap.size + 1))] 120)).frozen? ⟨w.heap.size, j, none⟩ = ((w.alloc (.cells #[.int .i64 0, .map none] 120)).alloc (.map #[] 0)).frozen? ⟨w.heap.size, j, none⟩ := fun j => World.frozen?_alloc_past _ _ _ (by rw [hM]; omega)
  have f' : ∀ j, ((w.alloc (.cells #[.int .i64 0, .map none] 120)).alloc (.map #[] 0)).frozen? ⟨w.heap.size, j, none⟩ = (w.alloc (.cells #[.int .i64 0, .map none] 120)).frozen? ⟨w.heap.size, j, none⟩ := fun j => World.frozen?_alloc_past _ _ _ (by rw [hA]; omega)
  refine ⟨by exact bw, by simp, (c 0).trans ((c' 0).trans (by simp)), (c 1).trans ((c' 1).trans (by simp)), (f 0).trans ((f' 0).trans (by simp)), (f 1).trans ((f' 1).trans (by simp)), ?_, ?_, .map [], ho.alloc _, reads_empty⟩
  · have := cell_two0 ((w.alloc (.cells #[.int .i64 0, .map none] 120)).alloc (.map #[] 0)) (.int .i64 (n : Int)) (.map (some (w.heap.size + 1))) 120; rw [hM] at this; exact this
  · have := cell_two1 ((w.alloc (.cells #[.int .i64 0, .map none] 120)).alloc (.map #[] 0)) (.int .i64 (n : Int)) (.map (some (w.heap.size + 1))) 120; rw [hM] at this; exact this
set_option maxHeartbeats 1000000 in
theorem mirror_any (x : Int) (w : World) : Calls Tryz.prog 89 #[.int .i64 x] w fun e w' => e = .returned (.int .i64 (backF x)) ∧ w' = w := by
  by_cases h1 : x = 1
  · subst h1
    go_enter Tryz.func89, Tryz.ntmps89
    go_wp2_with fail
    go_ret
    exact ⟨rfl, rfl⟩
  · have hb1 : (x == 1) = false := by simp [h1]
    by_cases h3 : x = 3
    · subst h3
      go_enter Tryz.func89, Tryz.ntmps89
      go_wp2_with fail
      go_ret
      exact ⟨rfl, rfl⟩
    · have hb3 : (x == 3) = false := by simp [h3]
      have hF : backF x = x := by unfold backF; rw [if_neg h1, if_neg h3]
      rw [hF]
      go_enter Tryz.func89, Tryz.ntmps89
      go_wp2_with fail
      go_ret
      exact ⟨rfl, rfl⟩
end Go.Proofs.YtnecdeaikmhanaaGreatDoor
namespace Go.Proofs.YtnecdeaikmhanaaGreatDoor
open Go.RowKit Go.Maps
set_option linter.unusedVariables false
set_option maxRecDepth 100000 in
set_option maxHeartbeats 8000000 in
theorem readRels_any (v : Value) (rs : List (List Int)) (w : World) (hv : RowsAt w v rs) :
    Calls Tryz.prog 97 #[v] w (ReadPost rs w) := by
  obtain ⟨a, cap, rfl, hc, hm⟩ := hv.form
  obtain ⟨n, hn⟩ : ∃ n, rs.length = n := ⟨_, rfl⟩
  rw [hn] at hc hv ⊢
  have HN := Lib.hid hn
  have H := Lib.hid hv
  clear hn hv
  have hmm := @run_makeMap Tryz.prog
  go_enter Tryz.func97, Tryz.ntmps97
  by_cases hn1 : n < 1
  · have e := Lib.hid (rels_size HN.out (by omega))
    have hnI : (n : Int) < 1 := by omega
    go_wp2_with fail
    refine bodyPost_ret (v := .tuple #[.agg #[.int .i64 0, .map none], .bool false]) (by simp [results, Tryz.results97, go_sem]) rfl ?_
    exact readPost_no e.out bw
  · by_cases hn5 : 5 < n
    · have e := Lib.hid (rels_size HN.out (by omega))
      have hnI : ¬ (n : Int) < 1 := by omega
      have hnI5 : 5 < (n : Int) := by omega
      go_wp2_with fail
      refine bodyPost_ret (v := .tuple #[.agg #[.int .i64 0, .map none], .bool false]) (by simp [results, Tryz.results97, go_sem]) rfl ?_
      exact readPost_no e.out bw
    · have hnI : ¬ (n : Int) < 1 := by omega
      have hnI5 : ¬ 5 < (n : Int) := by omega
      have S0 := Lib.hid (rr_start w n)
      go_wp2_with fail
      go_loopg [26] n (fun gk s26 wr => ∃ i : Nat, s26 = .int .i64 (i : Int) ∧ i + gk = n ∧ Hid (RR w wr n (5 * i) (valTo rs n i 0)) ∧ Hid (∀ j, j < i → (rs.getD j []).length = n ∧ ∀ k, k < n → 0 ≤ relAt rs j k ∧ relAt rs j k ≤ 3))
      case atStart => exact ⟨0, rfl, by omega, Lib.hid (by rw [valTo_none]; exact S0.out), Lib.hid fun j hj => by omega⟩
      case round =>
        clear S0
        obtain ⟨i, rfl, hi, S, hno⟩ := hrel
        have hbig := S.out.big
        have r0 := S.out.r0
        have r1 := S.out.r1
        have q0 := S.out.q0
        have q1 := S.out.q1
        have c0 := S.out.c0
        have c1 := S.out.c1
        have hbel := S.out.bel
        by_cases hg : gk = 0
        · subst hg
          obtain rfl : i = n := by omega
          have hdn : decide ((i : Int) < (i : Int)) = false := by simp
          obtain ⟨D, hown, hrd⟩ := S.out.own
          have HRD := Lib.hid hrd
          obtain ⟨w9, hw9⟩ : ∃ W, W = wr := ⟨_, rfl⟩
          subst hw9
          clear hrd
          go_wp2_with (first
            | (at_range; refine wpList_range_own _ rfl _ 118 rfl 154 3 cp_law Tryz.underlying118 (plainElem Tryz.prog 3) (w.heap.size + 1) (5 * i) D rfl hown ?_; intro w0 hrg0 hg0 hs0)
            | go_in)
          go_frame
          have S0 : Hid (RR w w0 i (5 * i) (valTo rs i i 0)) := Lib.hid (S.out.below ⟨hg0.os, hg0.tape, hg0.output, hg0.size, fun b hb => hg0.block b hb (by simp)⟩)
          have L0 : Hid (∀ p q : Nat, p < i → q < i → relAt rs p q ≠ 0 → Maps.has D (ck ((p : Int) + 1) ((q : Int) + 1)) = true ∨ coupleOk rs i ((p : Int) + 1) ((q : Int) + 1)) := Lib.hid fun p q hp hq h0 => .inl (HRD.out.here (WalkArith.wf_i64 (by omega)) (WalkArith.wf_i64 (by omega)) (by rw [valTo_all hp hq]; exact h0))
          have hs9 : w.heap.size + 3 ≤ w9.heap.size := hbig
          clear S r0 r1 q0 q1 c0 c1 hbel hbig hown hg0 hs0
          go_loopw [10] (fun _ wr => ∃ (left : Lit → Bool) (cnt : Nat), wr.ranges Tryz.prog 154 (plainElem Tryz.prog 3) (w.heap.size + 1) w9.heap.size (5 * i) D left cnt ∧ Hid (RR w wr i (5 * i) (valTo rs i i 0)) ∧ Hid (∀ p q : Nat, p < i → q < i → relAt rs p q ≠ 0 → left (ck ((p : Int) + 1) ((q : Int) + 1)) = true ∨ coupleOk rs i ((p : Int) + 1) ((q : Int) + 1)))
            (fun _ wr => wr.rangeLeft (w.heap.size + 1) w9.heap.size)
          case atStart => exact ⟨_, _, hrg0, S0, L0⟩
          case round =>
            clear S0 L0 hrg0
            obtain ⟨left, cnt, hrg, S, HL⟩ := hrel
            have hbig := S.out.big
            have r0 := S.out.r0
            have r1 := S.out.r1
            have q0 := S.out.q0
            have q1 := S.out.q1
            have c0 := S.out.c0
            have c1 := S.out.c1
            have hbel := S.out.bel
            go_wp2_with (first
              | (at_next; refine wpList_next_ranges _ rfl _ rfl 154 cp_law (plainElem Tryz.prog 3) (fun x : Int × Int => .agg #[.int .i64 x.1, .int .i64 x.2]) (Value.int .i64) (fun key kl h => by obtain ⟨x, h1, _⟩ := cp_inv h; exact ⟨x, h1⟩) (fun v y h => by obtain ⟨c, h1, _⟩ := plainElem_int_inv Tryz.underlying3 h; exact ⟨c, h1⟩) (w.heap.size + 1) w9.heap.size (5 * i) _ _ _ rfl hrg ?_ ?_)
              | go_in)
            · intro _ hl0
              have hok := Lib.hid (rels_all HN.out (by omega) (by omega) hno.out (fun p q hp hq h0 => by
                rcases HL.out p q hp hq h0 with h | h
                · rw [hl0] at h; cases h
                · exact h))
              have hown := Lib.hid hrg.owns
              clear hl0
              obtain ⟨z0, z1⟩ := stores2 (v0 := .int .i64 (i : Int)) (v1 := .map (some (w.heap.size + 1))) r0 r1
              go_wp2_with fail
              refine bodyPost_ret (v := .tuple #[.agg #[.int .i64 (i : Int), .map (some (w.heap.size + 1))], .bool true]) (by simp [results, Tryz.results97, go_sem, z0, z1]) rfl ?_
              exact readPost_yes hok.out HN.out bw (by omega) (by omega) (own_set2 hown.out (by omega)) HRD.out
            · intro a1 b1 c kl yd yp w1 cnt1 hkey hlx hRy hat hrg1 hlt hg1 hs1 hen
              obtain ⟨⟨a', b'⟩, ex, rfl, hwa, hwb⟩ := cp_inv hkey
              simp only [Value.agg.injEq, Array.mk.injEq, List.cons.injEq, Value.int.injEq, true_and, and_true] at ex
              obtain ⟨rfl, rfl⟩ := ex
              obtain ⟨c', ec, ey, hwc⟩ := plainElem_int_inv Tryz.underlying3 hRy
              cases ec
              simp only [Prod.mk.injEq] at ey
              obtain ⟨rfl, rfl⟩ := ey
              obtain ⟨hcv, hv0⟩ := HRD.out.entry hwa hwb hat
              obtain ⟨p, q, hp, hq, ea, eb⟩ := valTo_in hv0
              simp only at ea eb
              subst ea
              subst eb
              rw [valTo_all hp hq] at hcv hv0
              have S1 : Hid (RR w w1 i (5 * i) (valTo rs i i 0)) := Lib.hid (S.out.grown hg1 ⟨by omega, by omega, by omega⟩ ⟨D, hrg1.owns, HRD.out⟩)
              have wp' : (Lit.int .i64 ((p : Int) + 1)).wf = true := WalkArith.wf_i64 (by omega)
              have wq' : (Lit.int .i64 ((q : Int) + 1)).wf = true := WalkArith.wf_i64 (by omega)
              have hlk : ∀ W : World, W.ownsMap Tryz.prog 154 (plainElem Tryz.prog 3) (w.heap.size + 1) (5 * i) D → (Instr.lookup 118 (.map (some (w.heap.size + 1))) (.agg #[.int .i64 ((q : Int) + 1), .int .i64 ((p : Int) + 1)]) false).run Tryz.prog W = .ok (.int .i64 (relAt rs q p)) W := fun W hW => by
                obtain ⟨c2, hrun, hat2, _⟩ := hW.lookup_int cp_law Tryz.underlying118 Tryz.underlying3 (cp_zero W) (cp_key wq' wp')
                rw [hrun, HRD.out.look wq' wp' hat2, valTo_all hq hp]
              obtain ⟨z, hz⟩ : ∃ z, relAt rs q p = z := ⟨_, rfl⟩
              rw [hz] at hlk
              have ownA := hrg1.owns.alloc (.cells #[.int .i64 ((p : Int) + 1), .int .i64 ((q : Int) + 1)] 154)
              have d0 := cell_two0 w1 (.int .i64 ((p : Int) + 1)) (.int .i64 ((q : Int) + 1)) 154
              have d1 := cell_two1 w1 (.int .i64 ((p : Int) + 1)) (.int .i64 ((q : Int) + 1)) 154
              have S2 : Hid (RR w (w1.alloc (.cells #[.int .i64 ((p : Int) + 1), .int .i64 ((q : Int) + 1)] 154)) i (5 * i) (valTo rs i i 0)) := Lib.hid (S1.out.below (Below.alloc (Below.refl _ _) (Nat.le_refl _) _))
              have e1 := S2.out.c1
              have HRG := Lib.hid (hrg1.alloc (.cells #[.int .i64 ((p : Int) + 1), .int .i64 ((q : Int) + 1)] 154))
              have HG := Lib.hid hrg
              have HV := Lib.hid hcv
              have HV0 := Lib.hid hv0
              have HZ := Lib.hid hz
              have HMI := Lib.hid (mirror_any c)
              have s0 := S2.out.r0
              have s1 := S2.out.r1
              have t0 := S2.out.q0
              have t1 := S2.out.q1
              have hbel2 := S2.out.bel
              have hbig2 := S2.out.big
              have HLX := Lib.hid hlx
              clear hkey hRy hat hlx hz hcv hv0 hrg r0 r1 q0 q1 c0 c1 hbel hbig hg1 hs1
              by_cases hpq : p = q
              · have hbad := Lib.hid (rels_bad HN.out hp hq HV0.out (fun h => h.1 (by omega)))
                have hqb : ((p : Int) + 1 == (q : Int) + 1) = true := by simp [hpq]
                clear hpq
                go_wp2_with fail
                refine wp_region_noPanic ?_
                refine wp_region_held_drew (S := (fun w' => w'.cell? ⟨w1.heap.size, 0, none⟩ = some (.int .i64 ((p : Int) + 1)) ∧ w'.cell? ⟨w1.heap.size, 1, none⟩ = some (.int .i64 ((q : Int) + 1)) ∧ w'.cell? ⟨w.heap.size + 2, 1, none⟩ = some (.map (some (w.heap.size + 1))) ∧ w'.ownsMap Tryz.prog 154 (plainElem Tryz.prog 3) (w.heap.size + 1) (5 * i) D)) (by kernel_rfl) (by exact ⟨d0, d1, e1, ownA⟩) (fun hHeld => ?_)
                refine tkT (i := 0) (h := ?_)
                (try simp only [Act.put, pB, pC, pD])
                refine tkT (i := 1) (h := ?_)
                (try simp only [Act.put, pB, pC, pD])
                refine tkT (i := 2) (h := ?_)
                (try simp only [Act.put, pB, pC, pD])
                refine tkT (i := 3) (h := ?_)
                (try simp only [Act.put, pB, pC, pD])
                refine tkT (i := 4) (h := ?_)
                (try simp only [Act.put, pB, pC, pD])
                refine tkT (i := 5) (h := ?_)
                (try simp only [Act.put, pB, pC, pD])
                refine tkS (i := 6) (h := ?_)
                (try simp only [Act.put, pB, pC, pD])
                refine tkS (i := 7) (h := ?_)
                (try simp only [Act.put, pB, pC, pD])
                refine tkS (i := 8) (h := ?_)
                (try simp only [Act.put, pB, pC, pD])
                refine tkS (i := 9) (h := ?_)
                (try simp only [Act.put, pB, pC, pD])
                refine tkS (i := 10) (h := ?_)
                (try simp only [Act.put, pB, pC, pD])
                refine tkS (i := 11) (h := ?_)
                (try simp only [Act.put, pB, pC, pD])
                refine tkS (i := 12) (h := ?_)
                (try simp only [Act.put, pB, pC, pD])
                refine tkS (i := 13) (h := ?_)
                (try simp only [Act.put, pB, pC, pD])
                refine tkS (i := 14) (h := ?_)
                (try simp only [Act.put, pB, pC, pD])
                refine tkS (i := 15) (h := ?_)
                (try simp only [Act.put, pB, pC, pD])
                refine tkS (i := 16) (h := ?_)
                (try simp only [Act.put, pB, pC, pD])
                refine tkT (i := 17) (h := ?_)
                (try simp only [Act.put, pB, pC, pD])
                refine wpAnyH_done (by kernel_rfl) ?_ _
                refine NoPanic.normal ?_
                go_wp2_with fail
                obtain ⟨z0, z1⟩ := stores2 (w1 := (w1.alloc (.cells #[.int .i64 ((p : Int) + 1), .int .i64 ((q : Int) + 1)] 154))) (v0 := .int .i64 0) (v1 := .map none) s0 s1
                replace z0 : (((w1.alloc (.cells #[.int .i64 ((p : Int) + 1), .int .i64 ((q : Int) + 1)] 154)).setCell ⟨w.heap.size, 0, none⟩ (.int .i64 0)).setCell ⟨w.heap.size, 1, none⟩ (.map none)).drew.cell? ⟨w.heap.size, 0, none⟩ = some (.int .i64 0) := z0
                replace z1 : (((w1.alloc (.cells #[.int .i64 ((p : Int) + 1), .int .i64 ((q : Int) + 1)] 154)).setCell ⟨w.heap.size, 0, none⟩ (.int .i64 0)).setCell ⟨w.heap.size, 1, none⟩ (.map none)).drew.cell? ⟨w.heap.size, 1, none⟩ = some (.map none) := z1
                refine bodyPost_ret (v := .tuple #[.agg #[.int .i64 0, .map none], .bool false]) (by simp [results, Tryz.results97, go_sem, z0, z1]) rfl ?_
                exact readPost_no hbad.out bw
              · have hqb : ((p : Int) + 1 == (q : Int) + 1) = false := by simp; omega
                obtain ⟨mc, hmc⟩ : ∃ m, backF c = m := ⟨_, rfl⟩
                rw [hmc] at HMI
                have HMC := Lib.hid hmc
                by_cases hzm : z = mc
                · have hcok : Hid (coupleOk rs i ((p : Int) + 1) ((q : Int) + 1)) := Lib.hid ⟨by omega, by rw [valTo_all hq hp, valTo_all hp hq, HZ.out, ← HV.out, HMC.out]; exact hzm⟩
                  clear hmc
                  subst hzm
                  have hzb : (z != z) = false := by simp
                  go_wp2_with fail
                  refine wp_region_noPanic ?_
                  refine wp_region_held_drew (S := (fun w' => w'.cell? ⟨w1.heap.size, 0, none⟩ = some (.int .i64 ((p : Int) + 1)) ∧ w'.cell? ⟨w1.heap.size, 1, none⟩ = some (.int .i64 ((q : Int) + 1)) ∧ w'.cell? ⟨w.heap.size + 2, 1, none⟩ = some (.map (some (w.heap.size + 1))) ∧ w'.ownsMap Tryz.prog 154 (plainElem Tryz.prog 3) (w.heap.size + 1) (5 * i) D)) (by kernel_rfl) (by exact ⟨d0, d1, e1, ownA⟩) (fun hHeld => ?_)
                  refine tkT (i := 0) (h := ?_)
                  (try simp only [Act.put, pB, pC, pD])
                  refine tkT (i := 1) (h := ?_)
                  (try simp only [Act.put, pB, pC, pD])
                  refine tkT (i := 2) (h := ?_)
                  (try simp only [Act.put, pB, pC, pD])
                  refine tkT (i := 3) (h := ?_)
                  (try simp only [Act.put, pB, pC, pD])
                  refine tkT (i := 4) (h := ?_)
                  (try simp only [Act.put, pB, pC, pD])
                  refine tkT (i := 5) (h := ?_)
                  (try simp only [Act.put, pB, pC, pD])
                  refine tkT (i := 6) (h := ?_)
                  (try simp only [Act.put, pB, pC, pD])
                  refine tkT (i := 7) (h := ?_)
                  (try simp only [Act.put, pB, pC, pD])
                  refine tkT (i := 8) (h := ?_)
                  (try simp only [Act.put, pB, pC, pD])
                  refine tkT (i := 9) (h := ?_)
                  (try simp only [Act.put, pB, pC, pD])
                  refine tkT (i := 10) (h := ?_)
                  (try simp only [Act.put, pB, pC, pD])
                  refine tkT (i := 11) (h := ?_)
                  (try simp only [Act.put, pB, pC, pD])
                  refine tkT (i := 12) (h := ?_)
                  (try simp only [Act.put, pB, pC, pD])
                  refine tkT (i := 13) (h := ?_)
                  (try simp only [Act.put, pB, pC, pD])
                  refine tkT (i := 14) (h := ?_)
                  (try simp only [Act.put, pB, pC, pD])
                  refine wpAnyH_ready (rs := [15]) (by kernel_rfl) (by simp) ?_
                  refine AllReadyH.cons (by (simp only [List.getElem?_toArray, List.getElem?_cons_succ, List.getElem?_cons_zero]) <;> rfl) (fun K hK => ?_) AllReadyH.nil
                  go_simp
                  (go_at_call 89; refine (HMI.out _).mono ?_; rintro r w2 ⟨rfl, rfl⟩)
                  refine hK.out _ _ (by exact ⟨d0, d1, e1, ownA⟩) (fun hHeld => ?_)
                  (try simp only [Act.put, pB, pC, pD])
                  refine tkT (i := 16) (h := ?_)
                  (try simp only [Act.put, pB, pC, pD])
                  refine tkT (i := 17) (h := ?_)
                  (try simp only [Act.put, pB, pC, pD])
                  refine wpAnyH_done (by kernel_rfl) ?_ _
                  refine NoPanic.normal ?_
                  go_wp2_with fail
                  go_roundw
                  case rel =>
                    refine ⟨_, cnt1, ranges_drew HRG.out, Lib.hid (S2.out.below (Below.drew (Below.refl _ _))), Lib.hid fun p' q' hp' hq' h0 => ?_⟩
                    rcases HL.out p' q' hp' hq' h0 with h | h
                    · by_cases hpq' : p' = p ∧ q' = q
                      · right; rw [hpq'.1, hpq'.2]; exact hcok.out
                      · left
                        have hwp : (Lit.int .i64 ((p' : Int) + 1)).wf = true := WalkArith.wf_i64 (by omega)
                        have hwq : (Lit.int .i64 ((q' : Int) + 1)).wf = true := WalkArith.wf_i64 (by omega)
                        rw [h, Maps.sameKey_ne (fun e => hpq' (by obtain ⟨e1, e2⟩ := ck_inj hwp hwq wp' wq' e; omega))]; rfl
                    · exact .inr h
                  case measure =>
                    rw [ranges_left_drew]
                    rw [HRG.out.left_eq, HG.out.left_eq]; exact hlt
                · have hbad := Lib.hid (rels_bad HN.out hp hq HV0.out (fun h => hzm (by have := h.2; rw [valTo_all hq hp, valTo_all hp hq, HZ.out, ← HV.out, hmc] at this; exact this)))
                  have hzb : (z != mc) = true := by simp [hzm]
                  clear hmc
                  go_wp2_with fail
                  refine wp_region_noPanic ?_
                  refine wp_region_held_drew (S := (fun w' => w'.cell? ⟨w1.heap.size, 0, none⟩ = some (.int .i64 ((p : Int) + 1)) ∧ w'.cell? ⟨w1.heap.size, 1, none⟩ = some (.int .i64 ((q : Int) + 1)) ∧ w'.cell? ⟨w.heap.size + 2, 1, none⟩ = some (.map (some (w.heap.size + 1))) ∧ w'.ownsMap Tryz.prog 154 (plainElem Tryz.prog 3) (w.heap.size + 1) (5 * i) D)) (by kernel_rfl) (by exact ⟨d0, d1, e1, ownA⟩) (fun hHeld => ?_)
                  refine tkT (i := 0) (h := ?_)
                  (try simp only [Act.put, pB, pC, pD])
                  refine tkT (i := 1) (h := ?_)
                  (try simp only [Act.put, pB, pC, pD])
                  refine tkT (i := 2) (h := ?_)
                  (try simp only [Act.put, pB, pC, pD])
                  refine tkT (i := 3) (h := ?_)
                  (try simp only [Act.put, pB, pC, pD])
                  refine tkT (i := 4) (h := ?_)
                  (try simp only [Act.put, pB, pC, pD])
                  refine tkT (i := 5) (h := ?_)
                  (try simp only [Act.put, pB, pC, pD])
                  refine tkT (i := 6) (h := ?_)
                  (try simp only [Act.put, pB, pC, pD])
                  refine tkT (i := 7) (h := ?_)
                  (try simp only [Act.put, pB, pC, pD])
                  refine tkT (i := 8) (h := ?_)
                  (try simp only [Act.put, pB, pC, pD])
                  refine tkT (i := 9) (h := ?_)
                  (try simp only [Act.put, pB, pC, pD])
                  refine tkT (i := 10) (h := ?_)
                  (try simp only [Act.put, pB, pC, pD])
                  refine tkT (i := 11) (h := ?_)
                  (try simp only [Act.put, pB, pC, pD])
                  refine tkT (i := 12) (h := ?_)
                  (try simp only [Act.put, pB, pC, pD])
                  refine tkT (i := 13) (h := ?_)
                  (try simp only [Act.put, pB, pC, pD])
                  refine tkT (i := 14) (h := ?_)
                  (try simp only [Act.put, pB, pC, pD])
                  refine wpAnyH_ready (rs := [15]) (by kernel_rfl) (by simp) ?_
                  refine AllReadyH.cons (by (simp only [List.getElem?_toArray, List.getElem?_cons_succ, List.getElem?_cons_zero]) <;> rfl) (fun K hK => ?_) AllReadyH.nil
                  go_simp
                  (go_at_call 89; refine (HMI.out _).mono ?_; rintro r w2 ⟨rfl, rfl⟩)
                  refine hK.out _ _ (by exact ⟨d0, d1, e1, ownA⟩) (fun hHeld => ?_)
                  (try simp only [Act.put, pB, pC, pD])
                  refine tkT (i := 16) (h := ?_)
                  (try simp only [Act.put, pB, pC, pD])
                  refine tkT (i := 17) (h := ?_)
                  (try simp only [Act.put, pB, pC, pD])
                  refine wpAnyH_done (by kernel_rfl) ?_ _
                  refine NoPanic.normal ?_
                  go_wp2_with fail
                  obtain ⟨z0, z1⟩ := stores2 (w1 := (w1.alloc (.cells #[.int .i64 ((p : Int) + 1), .int .i64 ((q : Int) + 1)] 154))) (v0 := .int .i64 0) (v1 := .map none) s0 s1
                  replace z0 : (((w1.alloc (.cells #[.int .i64 ((p : Int) + 1), .int .i64 ((q : Int) + 1)] 154)).setCell ⟨w.heap.size, 0, none⟩ (.int .i64 0)).setCell ⟨w.heap.size, 1, none⟩ (.map none)).drew.cell? ⟨w.heap.size, 0, none⟩ = some (.int .i64 0) := z0
                  replace z1 : (((w1.alloc (.cells #[.int .i64 ((p : Int) + 1), .int .i64 ((q : Int) + 1)] 154)).setCell ⟨w.heap.size, 0, none⟩ (.int .i64 0)).setCell ⟨w.heap.size, 1, none⟩ (.map none)).drew.cell? ⟨w.heap.size, 1, none⟩ = some (.map none) := z1
                  refine bodyPost_ret (v := .tuple #[.agg #[.int .i64 0, .map none], .bool false]) (by simp [results, Tryz.results97, go_sem, z0, z1]) rfl ?_
                  exact readPost_no hbad.out bw
        · have hin : i < n := by omega
          have hiI : (i : Int) < (n : Int) := by omega
          have i0 : (0 : Int) ≤ (i : Int) := by omega
          have hgk : 1 ≤ gk := by omega
          have HI := Lib.hid hi
          obtain ⟨b, off, u, rfl, hb, hx0, hu⟩ := H.out.get i hin
          obtain ⟨ai, ci, e, hci, hcm⟩ := hu.form
          subst e
          obtain ⟨ni, hni⟩ : ∃ ni, (rs.getD i []).length = ni := ⟨_, rfl⟩
          rw [hni] at hx0 hci hu
          have hx := (hbel.cell (p := ⟨b, off + i, none⟩) hb).trans hx0
          have HNI := Lib.hid hni
          clear hi hni hg
          by_cases hnn : ni = n
          · subst hnn
            have hne : ((ni : Int) != (ni : Int)) = false := by simp
            have HU := Lib.hid hu
            clear hu
            obtain ⟨w0, hw0⟩ : ∃ W, W = wr := ⟨_, rfl⟩
            subst hw0
            obtain ⟨G, hG⟩ : ∃ G, G = gk := ⟨_, rfl⟩
            go_wp2_with fail
            go_loopg [39] ni (fun g2 s39 wr => ∃ k : Nat, s39 = .int .i64 (k : Int) ∧ k + g2 = ni ∧ Hid (RR w wr ni (5 * i + k) (valTo rs ni i k)) ∧ Hid (∀ j, j < k → 0 ≤ relAt rs i j ∧ relAt rs i j ≤ 3))
            case atStart => exact ⟨0, rfl, by omega, S, Lib.hid fun j hj => by omega⟩
            case round =>
              clear S r0 r1 q0 q1 c0 c1 hbel hbig
              obtain ⟨k, rfl, hk, S, hno2⟩ := hrel
              have hbig := S.out.big
              have r0 := S.out.r0
              have r1 := S.out.r1
              have q0 := S.out.q0
              have q1 := S.out.q1
              have c0 := S.out.c0
              have c1 := S.out.c1
              have hbel := S.out.bel
              by_cases hg : gk = 0
              · subst hg
                obtain rfl : k = ni := by omega
                have hdn : decide ((k : Int) < (k : Int)) = false := by simp
                go_wp2_with fail
                go_roundg (G - 1)
                case measure => omega
                case rel =>
                  refine ⟨i + 1, by go_num, by have := HI.out; omega, Lib.hid (by rw [← valTo_row]; exact S.out.mono (by omega)), Lib.hid fun j hj => ?_⟩
                  by_cases hji : j = i
                  · subst hji; exact ⟨HNI.out, hno2.out⟩
                  · exact hno.out j (by omega)
              · have hkn : k < ni := by omega
                have hkI : (k : Int) < (ni : Int) := by omega
                have k0 : (0 : Int) ≤ (k : Int) := by omega
                have hgk2 : 1 ≤ gk := by omega
                have HK := Lib.hid hk
                obtain ⟨bi, offi, rfl, hbi, hz⟩ := (HU.out.below hbel).get k hkn
                replace hz : wr.cell? ⟨bi, offi + k, none⟩ = some (.int .i64 (relAt rs i k)) := hz
                obtain ⟨x, hxx⟩ : ∃ x, relAt rs i k = x := ⟨_, rfl⟩
                rw [hxx] at hz
                have HX := Lib.hid hxx
                clear hxx hk hg
                by_cases hx3 : 0 ≤ x ∧ x ≤ 3
                · obtain ⟨x0, x3⟩ := hx3
                  by_cases hxz : x = 0
                  · subst hxz
                    go_wp2_with fail
                    go_roundg (gk - 1)
                    case measure => omega
                    case rel => exact ⟨k + 1, by go_num, by have := HK.out; omega, Lib.hid (by rw [valTo_zero hkn HX.out]; exact S.out.mono (by omega)), Lib.hid fun j hj => by
                      by_cases hjk : j = k
                      · subst hjk; rw [HX.out]; omega
                      · exact hno2.out j (by omega)⟩
                  · have hxb : (x != 0) = true := by simp [hxz]
                    have HXZ := Lib.hid hxz
                    obtain ⟨D, hown, hrd⟩ := S.out.own
                    have HRD := Lib.hid hrd
                    clear hrd hxz
                    go_wp2_with (at_mapUpdate; refine wpList_mapUpdate_own _ rfl _ _ _ 118 rfl 154 3 cp_law Tryz.underlying118 (plainElem Tryz.prog 3) (w.heap.size + 1) (5 * i + k) D rfl hown (by unfold maxLen; omega) _ _ (ck ((i : Int) + 1) ((k : Int) + 1)) rfl rfl (cp_key (WalkArith.wf_i64 (by omega)) (WalkArith.wf_i64 (by omega))) (.lit (.int .i64 x)) [] (plainElem_int Tryz.underlying3 (WalkArith.wf_i64 (by omega))) ?_; intro w1 hown1 hgrow1; have S1 : Hid (RR w w1 ni (5 * i + k + 1) (valTo rs ni i (k + 1))) := Lib.hid (S.out.grown hgrow1 ⟨by omega, by omega, by omega⟩ ⟨_, hown1, by rw [valTo_step hkn, HX.out]; exact HRD.out.put (WalkArith.wf_i64 (by omega)) (WalkArith.wf_i64 (by omega)) HXZ.out⟩); clear hown1 hgrow1)
                    go_roundg (gk - 1)
                    case measure => omega
                    case rel => exact ⟨k + 1, by go_num, by have := HK.out; omega, S1, Lib.hid fun j hj => by
                      by_cases hjk : j = k
                      · subst hjk; rw [HX.out]; omega
                      · exact hno2.out j (by omega)⟩
                · have e := Lib.hid (rels_cell HN.out hin hkn (by rw [HX.out]; exact hx3))
                  by_cases hx0 : x < 0
                  · go_wp2_with fail
                    refine bodyPost_ret (v := .tuple #[.agg #[.int .i64 0, .map none], .bool false]) (by simp [results, Tryz.results97, go_sem, r0, r1]) rfl ?_
                    exact readPost_no e.out bw
                  · have hx4 : 3 < x := by omega
                    go_wp2_with fail
                    refine bodyPost_ret (v := .tuple #[.agg #[.int .i64 0, .map none], .bool false]) (by simp [results, Tryz.results97, go_sem, r0, r1]) rfl ?_
                    exact readPost_no e.out bw
          · have hne : ((ni : Int) != (n : Int)) = true := by simp; omega
            have e := Lib.hid (relsOk_bad1 HN.out hin (by rw [HNI.out]; exact hnn))
            go_wp2_with fail
            refine bodyPost_ret (v := .tuple #[.agg #[.int .i64 0, .map none], .bool false]) (by simp [results, Tryz.results97, go_sem, r0, r1]) rfl ?_
            exact readPost_no e.out bw
end Go.Proofs.YtnecdeaikmhanaaGreatDoor
