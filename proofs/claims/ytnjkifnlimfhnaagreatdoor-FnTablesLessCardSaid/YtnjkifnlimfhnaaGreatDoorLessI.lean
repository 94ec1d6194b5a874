/- slices.Clone, slices.Grow, slices.Concat of entries; impl.sameHops, impl.TableLess. -/
import Derived.Test.YtnjkifnlimfhnaaGreatDoorEntMore
import Derived.Test.YtnjkifnlimfhnaaGreatDoorLessP
import Derived.Test.YtnjkifnlimfhnaaGreatDoorTabsL
import Derived.WalkSpells
namespace Go.Proofs.YtnjkifnlimfhnaaGreatDoor
open Go.RowKit
set_option linter.unusedVariables false

theorem run_append_zeros {P : Program} (w : World) (t u ty e : TypeId) (i : TypeInfo) (z : Value) (ht : P.underlying t = some (.slice e)) (hu : P.underlying u = some (.int .i64)) (hi : P.info? e = some i) (hz : i.zero = some z) (hs : i.size = 3) (hby : i.bytes = 24)
    (n : Nat) (h0 : 0 < n) (hn : n ≤ 1000000) :
    (Builtin.append_ #[t, u] ty #[.slice none 0 0, .int .i64 (n : Int)]).run P w =
      .ok (.slice (some ⟨w.heap.size, 0, none⟩) n (grownCap w n 0 e)) (w.drew.alloc (.cells (Builtin.zeroCells z.cells n ++ Builtin.zeroCells z.cells (grownCap w n 0 e - n)) e)) := by
  have hn0 : n ≠ 0 := by omega
  have hw : IntKind.i64.wrap (n : Int) = (n : Int) := IntWalk.i64_in _ (by omega)
  have hneg : ¬ ((n : Int) < 0) := by omega
  have hbig : ¬ (281474976710656 < (n : Int) * 24) := by omega
  have h63' : ¬ (9223372036854775807 < (n : Int)) := by omega
  have h48' : ¬ (281474976710656 < Builtin.nextslicecap n 0 * 24) := by rw [nextslicecap_zero h0]; omega
  simp [Builtin.append_, run_underlying ht, run_underlying hu, sizeOf, typeInfo, zeroValue, hi, hz, hs, hby, asInt, asIntOf, hw, hneg, hbig, hn0, h63', h48', Question.forced, run_firstCells_none, newRow, grownCap]
  intro h
  omega
variable {W : World}
theorem wpList_append_zeros {ops : Array Oper} {rest : List Oper} {o : Oper} {a : Act} {Q : Exit → Act → World → Prop} (hgd : o.guard = none) (s x : Operand)
    (ho : o.op = .call { callee := .builtin .append, args := #[s, x], argTypes := #[31, 3] })
    (n : Nat) (h0 : 0 < n) (hn : n ≤ 1000000) (hs : a.eval s = .slice none 0 0) (hx : a.eval x = .int .i64 (n : Int))
    (h : ∀ (c : Nat) w', EntNew w' W.heap.size (.slice (some ⟨W.heap.size, 0, none⟩) 0 c) [] → n ≤ c → c ≤ 9223372036854775807 → Below W.heap.size W w' → wpList Tryz.prog ops Q rest (a.put o.dst (.slice (some ⟨W.heap.size, 0, none⟩) n c)) w') :
    wpList Tryz.prog ops Q (o :: rest) a W := by
  obtain ⟨i0, hi, hz0, hz1, hz2⟩ := info_parts info_e3
  refine wpList_plain hgd fun _ hK => ?_
  have hr := run_append_zeros (P := Tryz.prog) W 31 3 o.type 61 i0 (.agg #[.int .i64 0, .int .i64 0, .int .i64 0]) Tryz.underlying31 Tryz.underlying3 hi hz0 hz1 hz2 n h0 hn
  unfold Oper.wp execOp
  simp only [ho, resolve, invoke, builtin, Sem.run_bind, Sem.run_pure, Result.andThen_ok, List.map_toArray, List.map_cons, List.map_nil, hs, hx, hr]
  have hge := grownCap_ge W n 0 61
  have hcm : grownCap W n 0 61 ≤ maxLen := grownCap_le_maxLen W n 0 61 (by unfold maxLen; omega)
  refine hK _ _ (h _ _ ⟨[], ⟨rfl, .inr ⟨W.heap.size, _, _, rfl, Nat.le_refl _, heap_alloc_new W.drew _, Nat.zero_le _, hcm, ?_, rfl⟩⟩, fun i hi => by simp at hi⟩ hge (by unfold maxLen at hcm; omega) (by repeat (first | exact Below.refl _ _ | assumption | refine Below.drew ?_ | refine belowDrewN ?_ _ | refine Below.alloc ?_ (by first | exact Nat.le_refl _ | omega | (simp; done) | (simp; omega)) _ | refine Below.setCell ?_ (by first | exact Nat.le_refl _ | omega | (simp; done) | (simp; omega)) _)))
  simp only [Array.size_append, size_zeroCells, Value.cells]
  simp
  omega
set_option maxRecDepth 100000 in
set_option maxHeartbeats 2000000 in
theorem slGrow_any (n : Nat) (hn : n ≤ 1000000) (w : World) :
    Calls Tryz.prog 81 #[.slice none 0 0, .int .i64 (n : Int)] w fun e w' => ∃ v', e = .returned v' ∧ EntNew w' w.heap.size v' [] ∧ Below w.heap.size w w' := by
  by_cases h0 : n = 0
  · subst h0
    go_enter Tryz.func81, Tryz.ntmps81
    go_wp2_with fail
    go_ret
    exact ⟨_, rfl, EntNew.nil _ _, by repeat (first | exact Below.refl _ _ | assumption | refine Below.drew ?_ | refine belowDrewN ?_ _ | refine Below.alloc ?_ (by first | exact Nat.le_refl _ | omega | (simp; done) | (simp; omega)) _ | refine Below.setCell ?_ (by first | exact Nat.le_refl _ | omega | (simp; done) | (simp; omega)) _)⟩
  · have hnI : (0 : Int) < (n : Int) := by omega
    have hnN : 0 < n := by omega
    go_enter Tryz.func81, Tryz.ntmps81
    go_wp2_with (at_builtin; refine wpList_append_zeros rfl (.tmp 20) (.tmp 21) rfl n hnN hn rfl rfl ?_; intro c w1 hE hc1 hc2 hb1; have E1 := Lib.hid hE; have B1 := Lib.hid hb1; clear hE hb1)
    go_ret
    exact ⟨_, rfl, E1.out, B1.out⟩
set_option maxRecDepth 100000 in
set_option maxHeartbeats 2000000 in
theorem slCloneE_any (v : Value) (l : List Ent) (w : World) (h : EntsAt w v l) (hl : l.length ≤ 100000) :
    Calls Tryz.prog 46 #[v] w fun e w' => ∃ v', e = .returned v' ∧ EntNew w' w.heap.size v' l ∧ Below w.heap.size w w' := by
  have q22 : ∀ (w : World) (a : Option Addr) (n c n' c' : Nat), (binOp .eql 31 (.slice a n c) (.slice none n' c')).run Tryz.prog w = .ok (.bool a.isNone) w := fun w a n c n' c' => Lib.run_eql_slice_nil w _ _ a n c n' c' Tryz.underlying31
  obtain ⟨a, cap, rfl, hc, hm⟩ := h.form
  rcases a with _ | a
  · have hn : l.length = 0 := by
      obtain ⟨a', c', e, _, _, hh⟩ := h
      simp only [Value.slice.injEq] at e
      obtain ⟨rfl, _, rfl⟩ := e
      rcases hh with hh | ⟨b, off, e, _⟩
      · exact hh
      · cases e
    obtain rfl : l = [] := List.length_eq_zero_iff.mp hn
    clear h
    go_enter Tryz.func46, Tryz.ntmps46
    go_wp2_with fail
    go_ret
    exact ⟨_, rfl, EntNew.nil _ _, Below.refl _ _⟩
  · obtain ⟨n, hn⟩ : ∃ n, l.length = n := ⟨_, rfl⟩
    rw [hn] at hc hl h ⊢
    have H := Lib.hid h
    have HN := Lib.hid hn
    clear hn h
    go_enter Tryz.func46, Tryz.ntmps46
    go_wp2_with (at_builtin; refine wpList_append_ents rfl (.tmp 5) (.tmp 6) rfl w.heap.size _ _ [] l n (by rw [List.length_nil, HN.out, Nat.zero_add]) rfl (EntNew.zero w) rfl (H.out.below (Below.alloc (Below.refl _ _) (Nat.le_refl _) _)) (by omega) (by simp) ?_; intro ad c w1 hE hb1 hs1; have E1 : Hid (EntNew w1 w.heap.size (.slice ad n c) l) := Lib.hid hE; have B1 : Hid (Below w.heap.size w w1) := Lib.hid (Below.trans (Below.alloc (Below.refl _ _) (Nat.le_refl _) _) hb1); clear hE hb1)
    go_ret
    exact ⟨_, rfl, E1.out, B1.out⟩
set_option maxRecDepth 100000 in
set_option maxHeartbeats 4000000 in
theorem slConcat_any (v : Value) (l1 l2 : List Ent) (w : World) (h : TabsAt w v [l1, l2]) (hl1 : l1.length ≤ 1000) (hl2 : l2.length ≤ 1000) :
    Calls Tryz.prog 47 #[v] w fun e w' => ∃ v', e = .returned v' ∧ EntNew w' w.heap.size v' (l1 ++ l2) ∧ Below w.heap.size w w' := by
  obtain ⟨a, cap, rfl, hc, hm⟩ := h.form
  have hlen : ([l1, l2] : List (List Ent)).length = 2 := rfl
  rw [hlen] at h hc ⊢
  have H := Lib.hid h
  obtain ⟨n1, hn1⟩ : ∃ n, l1.length = n := ⟨_, rfl⟩
  obtain ⟨n2, hn2⟩ : ∃ n, l2.length = n := ⟨_, rfl⟩
  have HN1 := Lib.hid hn1
  have HN2 := Lib.hid hn2
  rw [hn1] at hl1
  rw [hn2] at hl2
  clear h hlen hn1 hn2
  go_enter Tryz.func47, Tryz.ntmps47
  go_wp2_with fail
  go_loopg [3, 11] 2 (fun gk s3 s11 wr => ∃ k S : Nat, s11 = .int .i64 (k : Int) ∧ k + gk = 2 ∧ s3 = .int .i64 (S : Int) ∧ S = (if k = 0 then 0 else if k = 1 then n1 else n1 + n2) ∧ wr = w)
  case atStart => exact ⟨0, 0, rfl, rfl, rfl, rfl, rfl⟩
  case round =>
    obtain ⟨k, S, rfl, hk, rfl, hS, rfl⟩ := hrel
    by_cases hg : gk = 0
    · subst hg
      obtain rfl : k = 2 := by omega
      have hS2 : S = n1 + n2 := by rw [hS]; rfl
      subst hS2
      have hgr := Lib.hid (fun W => slGrow_any (n1 + n2) (by omega) W)
      clear hS
      go_wp2_with fail
      refine (hgr.out _).mono ?_
      rintro e w1 ⟨v1, rfl, hE1, hb1⟩
      have E1 := Lib.hid hE1
      have B1 := Lib.hid hb1
      obtain ⟨wb, hwb⟩ : ∃ W, W = wr := ⟨_, rfl⟩
      subst hwb
      clear hE1 hb1
      go_wp2_with fail
      go_loopg [6, 27] 2 (fun gk s6 s27 wr => ∃ (k : Nat), s27 = .int .i64 (k : Int) ∧ k + gk = 2 ∧ Hid (EntNew wr wb.heap.size s6 (if k = 0 then [] else if k = 1 then l1 else l1 ++ l2)) ∧ Hid (Below wb.heap.size wb wr))
      case atStart => exact ⟨0, rfl, rfl, E1, B1⟩
      case round =>
        clear E1 B1
        obtain ⟨k, rfl, hk, E, B⟩ := hrel
        have hsb := B.out.size
        by_cases hg : gk = 0
        · subst hg
          obtain rfl : k = 2 := by omega
          go_wp2_with fail
          go_ret
          exact ⟨_, rfl, E.out, B.out⟩
        · have hk2 : k = 0 ∨ k = 1 := by omega
          rcases hk2 with rfl | rfl
          · obtain ⟨b, off, u, rfl, hb, hx, hu⟩ := (H.out.below B.out).get 0 (by omega)
            obtain ⟨oa, oc, e, hoc, hom⟩ := E.out.form
            subst e
            have HU : Hid (EntsAt wr u l1) := Lib.hid hu
            rw [Nat.add_zero] at hx
            clear hu hg
            go_wp2_with (at_builtin; refine wpList_append_ents rfl (.tmp 31) (.tmp 32) rfl wb.heap.size _ _ [] l1 n1 (by rw [List.length_nil, HN1.out, Nat.zero_add]) rfl E.out rfl HU.out (by omega) hsb ?_; intro ad c w2 hE hb2 hs2; have E2 : Hid (EntNew w2 wb.heap.size (.slice ad n1 c) l1) := Lib.hid hE; have B2 := Lib.hid (B.out.trans hb2); clear hE hb2)
            go_roundg (gk - 1)
            case measure => omega
            case rel => exact ⟨1, by go_num, by omega, E2, B2⟩
          · obtain ⟨b, off, u, rfl, hb, hx, hu⟩ := (H.out.below B.out).get 1 (by omega)
            obtain ⟨oa, oc, e, hoc, hom⟩ := E.out.form
            subst e
            have E' : Hid (EntNew wr wb.heap.size (.slice oa n1 oc) l1) := Lib.hid (by have := E.out; rw [if_neg (by omega), if_pos rfl, HN1.out] at this; exact this)
            have HU : Hid (EntsAt wr u l2) := Lib.hid hu
            rw [if_neg (by omega), if_pos rfl, HN1.out]
            clear hu hg E
            go_wp2_with (at_builtin; refine wpList_append_ents rfl (.tmp 31) (.tmp 32) rfl wb.heap.size _ _ l1 l2 (n1 + n2) (by rw [HN1.out, HN2.out]) rfl E'.out rfl HU.out (by omega) hsb ?_; intro ad c w2 hE hb2 hs2; have E2 : Hid (EntNew w2 wb.heap.size (.slice ad (n1 + n2) c) (l1 ++ l2)) := Lib.hid hE; have B2 := Lib.hid (B.out.trans hb2); clear hE hb2)
            go_roundg (gk - 1)
            case measure => omega
            case rel => exact ⟨2, by go_num, by omega, E2, B2⟩
    · have hk2 : k = 0 ∨ k = 1 := by omega
      rcases hk2 with rfl | rfl
      · obtain ⟨b, off, u, rfl, hb, hx, hu⟩ := H.out.get 0 (by omega)
        obtain ⟨ua, uc, e, huc, hum⟩ := hu.form
        subst e
        have e1 : (([l1, l2] : List (List Ent)).getD 0 []).length = n1 := HN1.out
        rw [e1] at hx
        rw [Nat.add_zero] at hx
        have hS0 : S = 0 := by rw [hS]; rfl
        subst hS0
        clear hu hg hS
        go_wp2_with fail
        go_roundg (gk - 1)
        case measure => omega
        case rel => exact ⟨1, n1, by go_num, by omega, by go_num, by simp, rfl⟩
      · obtain ⟨b, off, u, rfl, hb, hx, hu⟩ := H.out.get 1 (by omega)
        obtain ⟨ua, uc, e, huc, hum⟩ := hu.form
        subst e
        have e1 : (([l1, l2] : List (List Ent)).getD 1 []).length = n2 := HN2.out
        rw [e1] at hx
        have hS0 : S = n1 := by rw [hS]; rfl
        subst hS0
        clear hu hg hS
        go_wp2_with fail
        go_roundg (gk - 1)
        case measure => omega
        case rel => exact ⟨2, S + n2, by go_num, by omega, by go_num, by simp, rfl⟩
def SamePost (v1 v2 : Nat → Int → Int) (w : World) (e : Ending) (w' : World) : Prop := ∃ b : Bool, e = .returned (.bool b) ∧ (b = true → ∀ x : Int, 0 ≤ x → x ≤ 255 → fV v1 x 9 = fV v2 x 9) ∧ Below w.heap.size w w'
theorem same_yes {v1 v2 : Nat → Int → Int} {w w' : World} (h : ∀ x : Int, 0 ≤ x → x ≤ 255 → fV v1 x 9 = fV v2 x 9) (hb : Below w.heap.size w w') : SamePost v1 v2 w (.returned (.bool true)) w' := ⟨true, rfl, fun _ => h, hb⟩
theorem same_no {v1 v2 : Nat → Int → Int} {w w' : World} (hb : Below w.heap.size w w') : SamePost v1 v2 w (.returned (.bool false)) w' := ⟨false, rfl, (fun h => by cases h), hb⟩
end Go.Proofs.YtnjkifnlimfhnaaGreatDoor
