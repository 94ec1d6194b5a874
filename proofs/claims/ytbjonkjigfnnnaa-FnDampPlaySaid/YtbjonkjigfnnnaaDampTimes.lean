/- What is drawn: times, and a pain of them. -/
import Derived.Test.YtbjonkjigfnnnaaDampPlaySpec
import Derived.OwnWalk
import Derived.WalkSpells
import Derived.Deep.LoopGhost
namespace Go.Proofs.Ytbjonkjigfnnnaa
open Go.RowKit
set_option linter.unusedVariables false

theorem RdAt.below {B k : Nat} {W w : World} {a : Option Addr} {len cap : Nat} {zs : List Int} {p : Nat} (h : RdAt W k a len cap zs p) (hb : Below B W w) (hk : k < B) : RdAt w k a len cap zs p := by
  refine ⟨(hb.cell (p := ⟨k, 0, none⟩) hk).trans h.c0, (hb.cell (p := ⟨k, 1, none⟩) hk).trans h.c1, (hb.frozen (p := ⟨k, 1, none⟩) hk).trans h.f1, ?_, h.far, h.short⟩
  rcases h.row with r | ⟨x, hx, h1, h2, h3, h4, h5⟩
  · exact .inl r
  · refine .inr ⟨x, hx, h1, h2, h3, fun i hi => ?_, h5⟩
    have := h.far x hx (by omega)
    exact (hb.cell (p := x.add i) (by rw [add_block]; omega)).trans (h4 i hi)
theorem Only.grown {k : Nat} {w w' : World} (h : Only k w w') : w.grownBy w' (some k) :=
  ⟨h.os, h.tape, h.output, h.size, fun b hb hne => h.block b hb (fun e => hne (by rw [e]))⟩
theorem Only.thenBelow {k : Nat} {a w w' : World} (h : Only k a w) (hb : Below a.heap.size w w') : Only k a w' :=
  ⟨hb.os.trans h.os, hb.tape.trans h.tape, hb.output.trans h.output, Nat.le_trans h.size hb.size, fun i hi hk => (hb.block i hi).trans (h.block i hi hk)⟩

/-- Some ascending times have been drawn, in a slice of the callee's own. -/
def TimesPost (k : Nat) (a : Option Addr) (len cap : Nat) (zs : List Int) (p : Nat) (w : World) (e : Ending) (w' : World) : Prop :=
  ∃ (v : Value) (l : List Int) (p' : Nat), e = .returned v ∧ w'.ownsRow w.heap.size 3 1 v l.length (l.map (Value.int .i64)) ∧ l.length ≤ 6 ∧ RdAt w' k a len cap zs p' ∧ p' ≤ p + 8 ∧ Only k w w'

theorem info_int : (Try.prog.info? 3).map (fun i => (i.zero, i.size, i.bytes)) = some (some (.int .i64 0), 1, 8) := by kernel_rfl

set_option maxHeartbeats 1000000 in
theorem times_any (k : Nat) (a : Option Addr) (len' cap : Nat) (zs : List Int) (p : Nat) (w : World) (h : RdAt w k a len' cap zs p) (hp : p ≤ 1000) :
    Calls Try.prog 47 #[.pointer (some ⟨k, 0, none⟩)] w (TimesPost k a len' cap zs p w) := by
  have hk := lt_of_cell h.c0
  simp only at hk
  have R := Lib.hid h
  clear h
  obtain ⟨i0, hi, hz0, hz1, hz2⟩ := info_parts info_int
  go_enter Try.func47, Try.ntmps47
  go_wp2_with (first | (go_at_call_of 40 (Value.int IntKind.i64 20); refine (pick_any _ k a len' cap zs _ _ (by omega) (by first | exact R.out | exact (R.out).drew | exact (R.out).alloc _ | exact ((R.out).alloc _).drew | exact (R.out).drewN _) (by omega)).mono ?_; rintro e w1 ⟨xt, rfl, xt0, xt1, hr, hO, hs⟩; (try simp at hs); have R := Lib.hid hr; have hA : Only k w w1 := (by refine Only.trans ?_ hO; repeat (first | exact Only.refl _ _ | assumption | refine Only.drew ?_ | refine Only.drewN ?_ _ | refine Only.alloc ?_ _)); obtain ⟨hc1, hf1⟩ := hO.cells; clear hr) | (go_at_call_of 40 (Value.int IntKind.i64 7); refine (pick_any _ k a len' cap zs _ _ (by omega) (by first | exact R.out | exact (R.out).drew | exact (R.out).alloc _ | exact ((R.out).alloc _).drew | exact (R.out).drewN _) (by omega)).mono ?_; rintro e w1 ⟨xn, rfl, xn0, xn1, hr, hO, hs⟩; (try simp at hs); have R := Lib.hid hr; have hA : Only k w w1 := (by refine Only.trans ?_ hO; repeat (first | exact Only.refl _ _ | assumption | refine Only.drew ?_ | refine Only.drewN ?_ _ | refine Only.alloc ?_ _)); obtain ⟨hc1, hf1⟩ := hO.cells; clear hr))
  have hx7 : xn.toNat ≤ 6 := by omega
  have hsz : w1.heap.size = w.heap.size + 1 := by omega
  have HSZ := Lib.hid hsz
  have own0 : w1.ownsRow w.heap.size 3 1 (.slice (some ⟨w.heap.size, 0, none⟩) 0 0) 0 [] := by
    have hO2 : Only k (w.alloc (.cells #[] 3)) w1 := (‹Only k (w.alloc (.cells #[] 3)) _›).trans hO
    exact (World.ownsRow_made (base := w.heap.size) (e := 3) (size := 1) w #[] 0 (Nat.le_refl _) (by simp [maxLen]) rfl).kept hO2.grown (.inr (by simp [Value.ownBlock]; omega))
  clear hsz hc1 hf1
  go_loopg [3, 4, 5] xn.toNat (fun g v tv n wr => ∃ (l : List Int) (t : Int) (p' : Nat), tv = .int .i64 t ∧ 0 ≤ t ∧ t ≤ 20 + 9 * l.length ∧ n = .int .i64 g ∧ l.length + g = xn.toNat ∧ wr.ownsRow w.heap.size 3 1 v l.length (l.map (Value.int .i64)) ∧
    RdAt wr k a len' cap zs p' ∧ p' ≤ p + 2 + l.length ∧ Only k w wr)
  case atStart => exact ⟨[], xt, p + 1 + 1, rfl, xt0, by omega, by simp; omega, by simp, own0, R.out, by simp, hA⟩
  case round =>
    obtain ⟨l, t, p', rfl, t0, t1, rfl, hlg, hown, hr, hp', hA'⟩ := hrel
    have R' := Lib.hid hr
    clear hr
    by_cases hg : gk = 0
    · subst hg
      go_wp2_with fail
      go_ret
      exact ⟨_, l, p', rfl, hown, by omega, R'.out, by omega, hA'⟩
    · have hl6 : l.length < 6 := by omega
      have hg1 : (1 : Int) ≤ (gk : Int) := by omega
      have hg6 : (gk : Int) ≤ 6 := by omega
      have hszr := hA'.size
      have RL := Lib.hid hlg
      clear hlg
      go_wp2_with (first
        | (at_builtin; go_loud (refine wpList_append_own _ rfl (.tmp 15) (.tmp 17) 39 rfl w.heap.size 3 i0 (.int .i64 0) 1 8 Try.underlying39 hi hz0 hz1 hz2 rfl (by decide) _ _ _ rfl (hown.alloc _) ⟨wr.heap.size, 0, none⟩ 1 1 [.int .i64 t] rfl rfl (cell_one_new _ _ _) (by intro u hu; simp at hu; subst hu; rfl) (by unfold maxLen; omega) (by omega) (by simp; omega) ?_); intro v' w2 hown2 hgrow2 _))
      have hrow : ∀ b, u3.ownBlock = some b → w.heap.size ≤ b := fun b hb => (hown.lt b hb).1
      have hw2 : Below w.heap.size wr w2 := Below.grown ((Below.refl _ _).alloc (by omega) _) hgrow2 (by simp; omega) hrow
      have hA2 : Only k w w2 := hA'.thenBelow hw2
      refine (pick_any 9 k a len' cap zs p' w2 (by omega) ((R'.out).below hw2 hk) (by omega)).mono ?_
      rintro e w3 ⟨x9, rfl, x90, x91, hr3, hO3, hs3⟩
      have hown3 := hown2.kept hO3.grown (by cases hv : v'.ownBlock with | none => exact .inl rfl | some b => exact .inr (by intro e; have := (hown2.lt b hv).1; simp at e; omega))
      have R3 := Lib.hid hr3
      clear hr3 hown hown2 hgrow2 hrow
      go_wp2_with fail
      go_roundg (gk - 1)
      case measure => omega
      case rel => exact ⟨l ++ [t], t + x9, p' + 1, rfl, by omega, by simp; omega, by go_num, by have := RL.out; simp; omega, by simpa using hown3, R3.out, by simp; omega, hA2.trans hO3⟩
end Go.Proofs.Ytbjonkjigfnnnaa
