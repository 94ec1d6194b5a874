/- Maps keyed by two houses. -/
import Derived.Test.YtgpdkplpneklgaaRelsP
import Derived.Maps.RangeWalk
import Derived.Maps.Views
import Derived.Maps.OwnOps
import Derived.DeepKeys4
namespace Go.Proofs.Ytgpdkplpneklgaa
open Go.RowKit Go.Maps
set_option linter.unusedVariables false
set_option maxRecDepth 100000

theorem cp_laid : laidOutB Try.prog = true := by kernel_rfl
theorem cp_row : (101 : TypeId) < Try.prog.types.size := of_decide_eq_true (by kernel_rfl)
theorem cp_deep : Try.prog.keyTypeAt (Try.prog.types.size + 1) 101 = true := by kernel_rfl
theorem cp_wide : (match Try.prog.underlying 101 with | some (.array _ _) | some (.struct _) => true | _ => false) = true := by kernel_rfl
set_option maxRecDepth 100000 in
theorem cp_law : Keyed Try.prog 101 := Keyed.of_law (deep_law_laid cp_laid (m := 2) (by omega) cp_row (by kernel_rfl) cp_wide)
theorem cp_cells : Try.prog.cellsOf 101 = 2 := by kernel_rfl
theorem cp_int : Try.prog.cellsOf 3 = 1 := by kernel_rfl
theorem cp_zero (w : World) : (zeroValue 3).run Try.prog w = .ok (.int .i64 0) w := by kernel_rfl
theorem succ_of {n m : Nat} (h : n < m) : ∃ d, m = d + 1 := ⟨m - 1, by omega⟩
set_option maxRecDepth 100000 in
theorem cp_size : ∃ d, Try.prog.types.size = d + 1 := succ_of cp_row
def ck (a b : Int) : Lit := .string (keyBytes [.int .i64 a, .int .i64 b])
theorem cp_key {a b : Int} (ha : (Lit.int .i64 a).wf = true) (hb : (Lit.int .i64 b).wf = true) : keyOf Try.prog 101 (.agg #[.int .i64 a, .int .i64 b]) = some (ck a b) := by
  unfold keyOf
  simp only [Try.underlying101]
  have h1 : Try.prog.keyType 101 = true := cp_deep
  have h2 : (Value.agg #[.int .i64 a, .int .i64 b]).formed Try.prog 101 = true := by simp [Value.formed, Try.underlying101, cp_cells]
  rw [h1, h2]
  obtain ⟨d, hd⟩ := cp_size
  rw [hd]
  simp [Program.keyLits, Try.underlying101, Try.underlying3, cp_cells, cp_int, ha, hb, ck, Value.cells]
theorem ck_inj {a b a' b' : Int} (ha : (Lit.int .i64 a).wf = true) (hb : (Lit.int .i64 b).wf = true) (ha' : (Lit.int .i64 a').wf = true) (hb' : (Lit.int .i64 b').wf = true) (h : ck a b = ck a' b') : a = a' ∧ b = b' := by
  have e1 := cp_key ha hb
  have e2 := cp_key ha' hb'
  rw [h] at e1
  have := cp_law.inj e1 e2
  simpa using this
theorem cp_inv {key : Value} {kl : Lit} (h : keyOf Try.prog 101 key = some kl) : ∃ x : Int × Int, key = .agg #[.int .i64 x.1, .int .i64 x.2] ∧ kl = ck x.1 x.2 ∧ (Lit.int .i64 x.1).wf = true ∧ (Lit.int .i64 x.2).wf = true := by
  unfold keyOf at h
  simp only [Try.underlying101] at h
  split at h
  · rename_i hf
    rw [Bool.and_eq_true] at hf
    have hform := hf.2
    unfold Value.formed at hform
    split at hform
    · simp only [Try.underlying101, cp_cells, beq_iff_eq] at hform
      rename_i cs
      obtain ⟨l⟩ := cs
      match l, hform with
      | [c0, c1], _ =>
        obtain ⟨d, hd⟩ := cp_size
        rw [hd] at h
        simp [Program.keyLits, Try.underlying101, Try.underlying3, cp_cells, cp_int, Value.cells] at h
        cases c0 <;> simp at h
        rename_i q0 a _
        by_cases hc : q0 = IntKind.i64 ∧ (Lit.int IntKind.i64 a).wf = true
        · obtain ⟨rfl, hwa⟩ := hc
          simp [hwa] at h
          cases c1 <;> simp at h
          rename_i q1 b _
          by_cases hc : q1 = IntKind.i64 ∧ (Lit.int IntKind.i64 b).wf = true
          · obtain ⟨rfl, hwb⟩ := hc
            simp [hwb] at h
            exact ⟨(a, b), rfl, h.symm, hwa, hwb⟩
          · simp [hc] at h
        · simp [hc] at h
    · cases hform
    · rw [Try.underlying101] at hform
      cases hform
  · cases h
end Go.Proofs.Ytgpdkplpneklgaa
