/- impl.RanksMany. -/
import Derived.Test.YtlkchhedlbaomaaRanksFill
import Derived.Laws.EntriesVeiled
namespace Go.Proofs.Ytlkchhedlbaomaa
open Go.RowKit Go.Shelf
set_option linter.unusedVariables false
attribute [local go_sem] Oper.semAt_some

theorem wpListIn_make_fullR {F : Fence} {n : Nat} {P : Program} (w : World) {ops : Array Oper} {rest : List Oper} {o : Oper} {a : Act} {Q : Exit → Act → World → Prop}
    (hg : o.guard = none) (l c : Operand) (t : TypeId) (hop : o.op = Op.makeSlice t l c)
    (base : Nat) (e : TypeId) (i : TypeInfo) (z : Value) (size : Nat) (h1 : P.underlying t = some (.slice e)) (h2 : P.info? e = some i) (h3 : i.zero = some z) (h4 : i.size = size)
    (kl kc : IntKind) (L C : Int) (m : Nat) (hl : a.eval l = .int kl L) (hc : a.eval c = .int kc C) (hL : L = (m : Int)) (hC : C = (m : Int)) (b2 : i.bytes * m ≤ 281474976710656) (b3 : m ≤ maxLen) (b4 : base ≤ w.heap.size)
    (hK : ∀ w', w'.ownsRow base e size (.slice (some ⟨w.heap.size, 0, none⟩) m m) m (madeCells z.cells (m * size)).toList → w.grownBy w' none → w'.heap.size = w.heap.size + 1 → wpListIn F n P ops Q rest (a.put o.dst (.slice (some ⟨w.heap.size, 0, none⟩) m m)) w') :
    wpListIn F n P ops Q (o :: rest) a w := by
  refine wpListIn_plain hg fun K hK' => ?_
  subst h4
  have h63' : (m : Int) ≤ 9223372036854775807 := by
    have h := b3
    simp [maxLen] at h
    omega
  have hb' : (i.bytes : Int) * (m : Int) ≤ 281474976710656 := by
    have h : ((i.bytes * m : Nat) : Int) ≤ 281474976710656 := by omega
    rwa [Int.natCast_mul] at h
  have hrun := run_make (P := P) w t e i z h1 h2 h3 kl kc m m (by omega) (Int.le_refl _) hb' h63'
  simp only [Int.toNat_natCast] at hrun
  have r1 := World.ownsRow_lit w (e := e) (base := base) (madeCells z.cells (m * i.size)) m b4 b3 (size_madeCells _ _)
  subst hL
  subst hC
  unfold Oper.wpIn
  refine ⟨?_, ?_⟩
  · simp [Oper.about, hop]
  · rw [Oper.semAt_plain F _ _ (by rw [hop]; intro c hc'; cases hc')]
    simp [execOp, hop, hl, hc, hrun, Result.andThen]
    exact hK' _ _ (hK _ r1 (World.grownBy_alloc w _ none) (by simp))

theorem info_r2M : (Try.prog.info? 27).map (fun i => (i.zero, i.size, i.bytes)) = some (some (.slice none 0 0), 1, 24) := by kernel_rfl

theorem fill_start (r : List (List (List Int))) (w0 : World) (gv : Value) (b1 l : Nat) (J : Nat → World → Prop) (W w3 : World) (m : Nat)
    (hb1 : b1 < W.heap.size) (hC : w0.heap.size ≤ W.heap.size) (hbe : Below w0.heap.size w0 W) (hr : W.cell? ⟨b1, 0, none⟩ = some gv)
    (hown : w3.ownsRow (W.heap.size + 1) 27 1 (.slice (some ⟨W.heap.size + 1, 0, none⟩) 3 3) 3 (madeCells (Value.slice none 0 0).cells (3 * 1)).toList)
    (hgrow : (W.alloc (.cells #[.func (.yield l) #[] #[]] 73)).grownBy w3 none) (hsz : w3.heap.size = W.heap.size + 1 + 1)
    (hJ : ∀ c A B, J c A → Below W.heap.size A B → J c B) (h0 : J 0 W)
    (hfill : ∀ (W' : World), 0 + 3 = 3 → J 0 W' → Fill w0 gv W.heap.size b1 l W' [[], [], []] → ([[], [], []] : List (List Int)).take 0 = [] →
      CallsIn Fence.wide (m - 1) Try.prog 78 #[.int .i64 ((0 : Nat) : Int), .pointer (some ⟨W.heap.size, 0, none⟩), .pointer (some ⟨W.heap.size + 2, 0, none⟩), .pointer (some ⟨W.heap.size + 3, 0, none⟩), .pointer (some ⟨b1, 0, none⟩)] W' (FillPost r w0 gv W.heap.size b1 l J 0 [] 0)) :
    CallsIn Fence.wide (m - 1) Try.prog 78 #[.int .i64 0, .pointer (some ⟨W.heap.size, 0, none⟩), .pointer (some ⟨w3.heap.size, 0, none⟩), .pointer (some ⟨w3.heap.size + 1, 0, none⟩), .pointer (some ⟨b1, 0, none⟩)]
      ((w3.alloc (.cells #[.slice (some ⟨W.heap.size + 1, 0, none⟩) 3 3] 26)).alloc (.cells #[.func (.func 78) #[] #[.pointer (some ⟨W.heap.size, 0, none⟩), .pointer (some ⟨w3.heap.size, 0, none⟩), .pointer (some ⟨w3.heap.size + 1, 0, none⟩), .pointer (some ⟨b1, 0, none⟩)]] 62))
      fun e W' => e = .returned (.bool true) ∧ J (totP r 3 []) W' := by
  have e3 : w3.heap.size = W.heap.size + 2 := by omega
  have hcells : (madeCells (Value.cells (.slice none 0 0)) (3 * 1)).toList = [.slice none 0 0, .slice none 0 0, .slice none 0 0] := by kernel_rfl
  rw [hcells] at hown
  have B1 : Below W.heap.size W (W.alloc (.cells #[.func (.yield l) #[] #[]] 73)) := (Below.refl _ _).alloc (Nat.le_refl _) _
  have B3 : Below W.heap.size W w3 := B1.grown hgrow B1.size (fun k e => by cases e)
  have B5 := fun o1 o2 => (B3.alloc B3.size o1).alloc (B3.alloc B3.size o1).size o2
  have Y := ((Boxed.new W 73 (.func (.yield l) #[] #[])).kept hgrow (by simp))
  have Z := Boxed.new w3 26 (.slice (some ⟨W.heap.size + 1, 0, none⟩) 3 3)
  have V := Boxed.new (w3.alloc (.cells #[.slice (some ⟨W.heap.size + 1, 0, none⟩) 3 3] 26)) 62 (.func (.func 78) #[] #[.pointer (some ⟨W.heap.size, 0, none⟩), .pointer (some ⟨w3.heap.size, 0, none⟩), .pointer (some ⟨w3.heap.size + 1, 0, none⟩), .pointer (some ⟨b1, 0, none⟩)])
  rw [World.size_alloc] at V
  have hnil : IntsAt w0 (.slice none 0 0) [] := ⟨none, 0, rfl, Nat.le_refl _, Nat.zero_le _, .inl rfl⟩
  have hF : Fill w0 gv W.heap.size b1 l ((w3.alloc (.cells #[.slice (some ⟨W.heap.size + 1, 0, none⟩) 3 3] 26)).alloc (.cells #[.func (.func 78) #[] #[.pointer (some ⟨W.heap.size, 0, none⟩), .pointer (some ⟨w3.heap.size, 0, none⟩), .pointer (some ⟨w3.heap.size + 1, 0, none⟩), .pointer (some ⟨b1, 0, none⟩)]] 62)) [[], [], []] := by
    refine ⟨hbe.trans ((B5 _ _).mono hC), ((Y.alloc _).alloc _).cell, ?_, ?_, ((B5 _ _).cell (p := ⟨b1, 0, none⟩) hb1).trans hr, by simp; omega, ⟨_, rfl, rfl, (hown.alloc _).alloc _, fun i hi => ?_⟩⟩
    · have := (Z.alloc (.cells #[.func (.func 78) #[] #[.pointer (some ⟨W.heap.size, 0, none⟩), .pointer (some ⟨w3.heap.size, 0, none⟩), .pointer (some ⟨w3.heap.size + 1, 0, none⟩), .pointer (some ⟨b1, 0, none⟩)]] 62)).cell
      rw [e3] at this ⊢; exact this
    · have := V.cell
      rw [e3] at this ⊢; exact this
    · match i, hi with
      | 0, _ => exact hnil
      | 1, _ => exact hnil
      | 2, _ => exact hnil
  have := hfill _ rfl (hJ _ _ _ h0 (B5 _ _)) hF rfl
  rw [show W.heap.size + 3 = w3.heap.size + 1 by omega, show W.heap.size + 2 = w3.heap.size by omega] at this
  refine this.mono ?_
  rintro e W5 ⟨he, hj, _⟩
  exact ⟨he, by simpa using hj⟩

set_option maxRecDepth 100000 in
set_option maxHeartbeats 4000000 in
theorem states1_any (r : List (List (List Int))) (w0 : World) (gv : Value) (C b1 l x y : Nat) (J : Nat → World → Prop) (W : World) (hCW : C = W.heap.size)
    (hG : GridAt w0 gv r) (hr3 : r.length = 3) (hs3 : Short3 r) (hb1 : b1 < C) (hC : w0.heap.size ≤ C) (hx : x < C) (hy : y < C) (hx1 : b1 ≠ x) (hy1 : b1 ≠ y) (h0x : w0.heap.size ≤ x) (h0y : w0.heap.size ≤ y)
    (hJ : ∀ c W W', J c W → Below C W W' → J c W') (hY : RoundKeeps r w0 gv C b1 l x y J) (hbe : Below w0.heap.size w0 W) (hr : W.cell? ⟨b1, 0, none⟩ = some gv) (h0 : J 0 W) (m : Nat) :
    CallsIn Fence.wide m Try.prog 77 #[.func (.yield l) #[] #[], .pointer (some ⟨b1, 0, none⟩)] W fun e W' => (∃ v, e = .returned v) ∧ J (totP r 3 []) W' := by
  obtain ⟨i0, hi, hz0, hz1, hz2⟩ := info_parts info_r2M
  have hfill := fill_any r w0 gv C b1 l x y J hG hr3 hs3 hb1 hC hx hy hx1 hy1 h0x h0y hJ hY 3 0 (m - 1) 0 [] [[], [], []]
  have hdd : ∀ k : Nat, (Fence.wide.depth.isSome = true → 1 ≤ k) := fun k h => by cases h
  have HFI := Lib.hid hfill
  have HJ := Lib.hid hJ
  have H0 := Lib.hid h0
  have HBE := Lib.hid hbe
  have HR := Lib.hid hr
  clear hfill hJ hY hG h0 hbe hr
  refine callsIn_of_wp Try.func77 rfl trivial ?_ rfl
  simp only [Try.ntmps77, List.size_toArray, List.length_cons, List.length_nil, Nat.reduceAdd, Nat.reduceSub, Array.replicate_succ, Array.replicate_zero, List.push_toArray, List.append_toArray, List.nil_append, List.cons_append]
  subst hCW
  gi_wp2_with (gi_at_make; refine wpListIn_make_fullR _ rfl (.const (.int .i64 3)) (.const (.int .i64 3)) 26 rfl (W.heap.size + 1) 27 i0 (.slice none 0 0) 1 Try.underlying26 hi hz0 hz1 .i64 .i64 3 3 3 rfl rfl rfl rfl (by rw [hz2]; omega) (by unfold maxLen; omega) (by simp) ?_; intro w3 hown hgrow hsz3; rw [World.size_alloc] at hsz3 hown ⊢; have HOWN := Lib.hid hown; have HGR := Lib.hid hgrow; have HSZ := Lib.hid hsz3; have HC := Lib.hid (fill_start r w0 gv b1 l J W w3 m hb1 hC HBE.out HR.out hown hgrow hsz3 HJ.out H0.out HFI.out); clear hown hgrow hsz3)
  refine ⟨trivial, hdd _, ?_⟩
  refine (HC.out).mono ?_
  rintro e W5 ⟨rfl, hj5⟩
  have HJ5 := Lib.hid hj5
  clear hj5
  gi_wp2
  go_end0
  exact ⟨⟨_, rfl⟩, HJ5.out⟩
end Go.Proofs.Ytlkchhedlbaomaa
