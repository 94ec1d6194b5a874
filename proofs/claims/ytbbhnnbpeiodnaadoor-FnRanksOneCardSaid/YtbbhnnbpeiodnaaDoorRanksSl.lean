/- slices.Index, Contains, Equal, Clone at []int; IndexFunc, ContainsFunc at []int and [][]int. -/
import Derived.Test.YtbbhnnbpeiodnaaDoorRanksPlain
import Derived.Deep.LoopGhost
import Derived.Deep.QuietTactic
import Derived.BigQuiet
import Derived.OwnWalk
import Derived.WalkSpells
namespace Go.Proofs.YtbbhnnbpeiodnaaDoor
open Go.RowKit
set_option linter.unusedVariables false

set_option maxHeartbeats 1000000 in
theorem slEqual_any (v v2 : Value) (l l2 : List Int) (w : World) (h : IntsAt w v l) (h2 : IntsAt w v2 l2) :
    Calls Tryd.prog 28 #[v, v2] w fun e w' => e = .returned (.bool (decide (l = l2))) ∧ Drew w w' := by
  obtain ⟨a, cap, rfl, hc, hm, h⟩ := h
  obtain ⟨a2, cap2, rfl, hc2, hm2, h2⟩ := h2
  unfold maxLen at hm hm2
  obtain ⟨n, hn⟩ : ∃ n, l.length = n := ⟨_, rfl⟩
  obtain ⟨n2, hn2⟩ : ∃ n, l2.length = n := ⟨_, rfl⟩
  rw [hn] at hc h ⊢
  rw [hn2] at hc2 h2 ⊢
  obtain ⟨B, hB⟩ : ∃ B, decide (l = l2) = B := ⟨_, rfl⟩
  rw [hB]
  have HB := Lib.hid hB
  have HN := Lib.hid hn
  have HN2 := Lib.hid hn2
  have H := Lib.hid h
  have H2 := Lib.hid h2
  clear hB hn hn2 h h2
  by_cases hnn : n = n2
  · subst hnn
    go_enter Tryd.func28, Tryd.ntmps28
    go_wp2_with fail
    go_loopg [13] n (fun g i wr => ∃ k m : Nat, i = .int .i64 k ∧ k + g = n ∧ wr = w.drewN m ∧ Hid (∀ j, j < k → l.getD j 0 = l2.getD j 0))
    case atStart => exact ⟨0, 0, rfl, by omega, rfl, fun j hj => by omega⟩
    case round =>
      obtain ⟨k, m, rfl, hk, rfl, hno⟩ := hrel
      by_cases hg : gk = 0
      · subst hg
        obtain rfl : k = n := by omega
        have hB : B = true := by
          rw [← HB.out, decide_eq_true_eq]
          exact same_list (by rw [HN.out, HN2.out]) (by rw [HN.out]; exact hno.out)
        subst hB
        go_wp2_with fail
        go_ret
        exact ⟨rfl, m, rfl⟩
      · have hkn : k < n := by omega
        have hkn2 : (k : Int) < (n : Int) := by omega
        rcases H.out with h0 | ⟨b, off, rfl, hb, hcell⟩
        · omega
        · rcases H2.out with h0 | ⟨b2, off2, rfl, hb2, hcell2⟩
          · omega
          · have hx := hcell k hkn
            have hx2 := hcell2 k hkn
            clear hcell hcell2
            obtain ⟨y, hy⟩ : ∃ y, l.getD k 0 = y := ⟨_, rfl⟩
            obtain ⟨y2, hy2⟩ : ∃ y, l2.getD k 0 = y := ⟨_, rfl⟩
            rw [hy] at hx
            rw [hy2] at hx2
            have HY := Lib.hid hy
            have HY2 := Lib.hid hy2
            have HK := Lib.hid hk
            clear hy hy2 hk
            by_cases hyx : y = y2
            · have hne : (y != y2) = false := by simp [hyx]
              have HE := Lib.hid hyx
              clear hyx
              go_wp2_with fail
              go_quiet (fail)
              go_wp2_with fail
              go_roundg (gk - 1)
              case measure => omega
              case rel =>
                refine ⟨k + 1, m + nq, by go_num, by have := HK.out; omega, rfl, fun j hj => ?_⟩
                by_cases hjk : j = k
                · subst hjk; rw [HY.out, HY2.out]; exact HE.out
                · exact hno.out j (by omega)
            · have hB : B = false := by
                rw [← HB.out, decide_eq_false_iff_not]
                intro e
                apply hyx
                rw [← HY.out, ← HY2.out, e]
              subst hB
              have hne : (y != y2) = true := by simp [hyx]
              go_wp2_with fail
              go_quiet (fail)
              go_wp2_with fail
              go_ret
              exact ⟨rfl, by repeat (first | exact Drew.refl _ | assumption | refine Drew.more ?_ _)⟩
  · have hB : B = false := by
      rw [← HB.out, decide_eq_false_iff_not]
      intro e
      apply hnn
      rw [← HN.out, ← HN2.out, e]
    subst hB
    have hne : ¬ ((n : Int) = (n2 : Int)) := by omega
    go_enter Tryd.func28, Tryd.ntmps28
    go_wp2_with fail
    go_ret
    exact ⟨rfl, Drew.refl _⟩

set_option maxHeartbeats 1000000 in
theorem slIndex_any (v : Value) (l : List Int) (x : Int) (w : World) (h : IntsAt w v l) :
    Calls Tryd.prog 42 #[v, .int .i64 x] w fun e w' => e = .returned (.int .i64 (idxP (fun y => x == y) l)) ∧ w' = w := by
  obtain ⟨a, cap, rfl, hc, hm⟩ := h.form
  obtain ⟨n, hn⟩ : ∃ n, l.length = n := ⟨_, rfl⟩
  rw [hn] at hc h ⊢
  obtain ⟨B, hB⟩ : ∃ B, idxP (fun y => x == y) l = B := ⟨_, rfl⟩
  rw [hB]
  have HB := Lib.hid hB
  have HN := Lib.hid hn
  have H := Lib.hid h
  clear hB hn h
  go_enter Tryd.func42, Tryd.ntmps42
  go_wp2_with fail
  go_loopg [8] n (fun g i wr => ∃ k : Nat, i = .int .i64 k ∧ k + g = n ∧ wr = w ∧ Hid (∀ j, j < k → (x == l.getD j 0) = false))
  case atStart => exact ⟨0, rfl, by omega, rfl, Lib.hid fun j hj => by omega⟩
  case round =>
    obtain ⟨k, rfl, hk, rfl, hno⟩ := hrel
    by_cases hg : gk = 0
    · subst hg
      obtain rfl : k = n := by omega
      have e := HB.out
      rw [idxP_miss 0 (by rw [HN.out]; exact hno.out)] at e
      subst e
      go_wp2_with fail
      go_ret
      exact ⟨rfl, rfl⟩
    · have hkn : k < n := by omega
      obtain ⟨b, off, rfl, hb, hx⟩ := H.out.get k hkn
      obtain ⟨y, hy⟩ : ∃ y, l.getD k 0 = y := ⟨_, rfl⟩
      rw [hy] at hx
      have HY := Lib.hid hy
      have HK := Lib.hid hk
      clear hy hk
      by_cases hxy : x = y
      · subst hxy
        have e := HB.out
        rw [idxP_hit 0 (by rw [HN.out]; exact hkn) (by rw [HY.out]; simp) hno.out] at e
        subst e
        go_wp2_with fail
        go_ret
        exact ⟨rfl, rfl⟩
      · have hxy' : (x == y) = false := by simp [hxy]
        go_wp2_with fail
        go_roundg (gk - 1)
        case measure => omega
        case rel =>
          refine ⟨k + 1, by go_num, by have := HK.out; omega, rfl, Lib.hid fun j hj => ?_⟩
          by_cases hjk : j = k
          · subst hjk; rw [HY.out]; exact hxy'
          · exact hno.out j (by omega)

set_option maxHeartbeats 1000000 in
theorem slContains_any (v : Value) (l : List Int) (x : Int) (w : World) (h : IntsAt w v l) :
    Calls Tryd.prog 38 #[v, .int .i64 x] w fun e w' => e = .returned (.bool (decide (x ∈ l))) ∧ w' = w := by
  have hc := slIndex_any v l x w h
  obtain ⟨i, hi⟩ : ∃ i, idxP (fun y => x == y) l = i := ⟨_, rfl⟩
  have e := idxP_nonneg (fun y => x == y) l
  rw [any_eq, hi] at e
  rw [hi] at hc
  rw [← e]
  have HC := Lib.hid hc
  obtain ⟨a, cap, rfl, _, _⟩ := h.form
  clear hc hi e h
  go_enter Tryd.func38, Tryd.ntmps38
  go_wp2_with (go_at_call 42; refine (HC.out).mono ?_; rintro e w' ⟨rfl, rfl⟩)
  go_ret
  exact ⟨rfl, rfl⟩

theorem info_intR : (Tryd.prog.info? 3).map (fun i => (i.zero, i.size, i.bytes)) = some (some (.int .i64 0), 1, 8) := by kernel_rfl
/-- A new slice of numbers: nil, or in a block of its own from B on. -/
def OwnInts (w : World) (B : Nat) (v : Value) (l : List Int) : Prop := w.ownsRow B 3 1 v l.length (l.map (Value.int .i64))
theorem OwnInts.ints {w : World} {B : Nat} {v : Value} {l : List Int} (h : OwnInts w B v l) : IntsAt w v l := by
  have h' : w.ownsRow B 3 1 v l.length (l.map (Value.int .i64)) := h
  rcases h'.2 with ⟨rfl, hn⟩ | ⟨g, cap, cur, rfl, hb, hg, hnc, hcm, hcs, htake⟩
  · exact ⟨none, 0, by rw [hn], by omega, by unfold maxLen; omega, .inl hn⟩
  · refine ⟨some ⟨g, 0, none⟩, cap, rfl, hnc, hcm, .inr ⟨g, 0, rfl, ?_, fun i hi => ?_⟩⟩
    · by_cases hlt : g < w.heap.size
      · exact hlt
      · rw [Array.getElem?_eq_none (by omega)] at hg; simp at hg
    · rw [Nat.zero_add, h'.cellAt i (by omega)]
      simp [List.getElem?_eq_getElem hi]

set_option maxHeartbeats 2000000 in
set_option maxRecDepth 100000 in
theorem slClone_any (v : Value) (l : List Int) (w : World) (h : IntsAt w v l) (hl : l.length ≤ 1048576) :
    Calls Tryd.prog 29 #[v] w fun e w' => ∃ v', e = .returned v' ∧ OwnInts w' w.heap.size v' l ∧ Below w.heap.size w w' := by
  obtain ⟨i0, hi, hz0, hz1, hz2⟩ := info_parts info_intR
  have q22 : ∀ (w : World) (a : Option Addr) (n c n' c' : Nat), (binOp .eql 24 (.slice a n c) (.slice none n' c')).run Tryd.prog w = .ok (.bool a.isNone) w := fun w a n c n' c' => Lib.run_eql_slice_nil w _ _ a n c n' c' Tryd.underlying24
  obtain ⟨a, cap, rfl, hc, hm⟩ := h.form
  rcases a with _ | a
  · have hn : l.length = 0 := by
      obtain ⟨a', c', e, _, _, hh⟩ := h
      simp only [Value.slice.injEq] at e
      obtain ⟨rfl, _, rfl⟩ := e
      rcases hh with hh | ⟨b, off, e, _⟩
      · exact hh
      · cases e
    obtain rfl : l = [] := List.length_eq_zero_iff.mp hn
    clear h
    go_enter Tryd.func29, Tryd.ntmps29
    go_wp2_with fail
    go_ret
    exact ⟨_, rfl, World.ownsRow_nil _ _ _ _, Below.refl _ _⟩
  · have H := Lib.hid h
    have HL := Lib.hid hl
    have HL2 : l.length ≤ 1048576 := hl
    obtain ⟨n, hn⟩ : ∃ n, l.length = n := ⟨_, rfl⟩
    rw [hn] at hc hl HL2 ⊢
    have HN := Lib.hid hn
    clear hn h
    go_enter Tryd.func29, Tryd.ntmps29
    go_wp2_with (at_builtin; refine wpList_append_own _ rfl _ _ 24 rfl w.heap.size 3 i0 (.int .i64 0) 1 8 Tryd.underlying24 hi hz0 hz1 hz2 rfl (by decide) _ _ _ rfl (World.ownsRow_made w #[] 0 (Nat.le_refl _) (Nat.zero_le _) rfl) a n cap (l.map (Value.int .i64)) rfl ?qc1 ?qc2 ?qc3 ?qc4 ?qc5 ?qc6 ?_)
    case qc1 => simpa using HN.out
    case qc2 =>
      intro j u hj
      have hjn : j < l.length := by
        have := (List.getElem?_eq_some_iff.1 hj).1
        simpa using this
      have hh := H.out
      rw [HN.out] at hh
      obtain ⟨b, off, e, hb, hx⟩ := hh.get j (by rw [← HN.out]; exact hjn)
      simp only [Option.some.injEq] at e
      subst e
      rw [Addr.add_lit]
      refine Lib.cell?_alloc_some _ ?_
      rw [hx]
      have e : (l.map (Value.int .i64))[j]? = some (Value.int .i64 (l.getD j 0)) := by simp [List.getD, List.getElem?_eq_getElem hjn]
      rw [e] at hj
      exact hj
    case qc3 => intro u hu; obtain ⟨x, _, rfl⟩ := List.mem_map.1 hu; rfl
    case qc4 => unfold maxLen; omega
    case qc5 => omega
    case qc6 => simp
    intro v' w1 hown hgrow hnil
    go_wp2_with fail
    go_ret
    refine ⟨v', rfl, ?_, ?_⟩
    · unfold OwnInts; rw [HN.out]; simpa using hown
    · exact ((Below.refl _ w).alloc (Nat.le_refl _) _).grown hgrow (by simp) (by intro k hk; simp [Value.ownBlock] at hk; omega)
end Go.Proofs.YtbbhnnbpeiodnaaDoor
