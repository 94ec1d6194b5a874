/- impl.trieOf: a table's trie. -/
import Derived.Test.YtnjkifnlimfhnaaDoorPut
namespace Go.Proofs.YtnjkifnlimfhnaaDoor
open Go.RowKit
set_option linter.unusedVariables false

def m0 (r : Nat) : Nat → Int → Option Nat := fun k p => if k = 0 ∧ p = 0 then some r else none
theorem IsTrie.new (w : World) : IsTrie (w.alloc (.cells #[.int .i64 0, .pointer none, .pointer none] 113)) w.heap.size (m0 w.heap.size) (vF []) := by
  refine ⟨fun k p b hm => ?_, fun k p k' p' b h1 h2 => ?_, fun k p _ => rfl, fun k p c hc hm => ?_⟩
  · unfold m0 at hm
    by_cases h : k = 0 ∧ p = 0
    · rw [if_pos h] at hm
      simp only [Option.some.injEq] at hm
      subst hm
      refine ⟨Nat.le_refl _, ?_⟩
      have e : ∀ q, m0 w.heap.size (k + 1) q = none := fun q => by unfold m0; rw [if_neg (by omega)]
      rw [heap_alloc_new, e, e]; rfl
    · rw [if_neg h] at hm; cases hm
  · unfold m0 at h1 h2
    by_cases h : k = 0 ∧ p = 0
    · by_cases h' : k' = 0 ∧ p' = 0
      · exact ⟨h.1.trans h'.1.symm, h.2.trans h'.2.symm⟩
      · rw [if_neg h'] at h2; cases h2
    · rw [if_neg h] at h1; cases h1
  · unfold m0; rw [if_neg (by omega)]
theorem take_snoc {l : List Ent} {k : Nat} (hk : k < l.length) : l.take (k + 1) = l.take k ++ [l.getD k (0, 0, 0)] := by
  rw [List.take_add_one, List.getD_eq_getElem?_getD, List.getElem?_eq_getElem hk]; rfl

set_option maxRecDepth 100000 in
set_option maxHeartbeats 4000000 in
theorem trieOf_any (t : Value) (l : List Ent) (hl : l.length ≤ 12) (hok : ∀ i, i < l.length → entOkF (l.getD i (0, 0, 0)) = true) (w : World) (hE : EntsAt w t l) :
    Calls Tryd.prog 56 #[t] w fun e w' => ∃ (root : Nat) (m : Nat → Int → Option Nat), e = .returned (.pointer (some ⟨root, 0, none⟩)) ∧ IsTrie w' w.heap.size m (vF l) ∧ m 0 0 = some root ∧ root < w'.heap.size ∧ Below w.heap.size w w' := by
  have hT := IsTrie.new w
  obtain ⟨lo, hlo⟩ : ∃ lo, w.heap.size = lo := ⟨_, rfl⟩
  obtain ⟨a, cap, rfl, hc, hm⟩ := hE.form
  obtain ⟨n, hn⟩ : ∃ n, l.length = n := ⟨_, rfl⟩
  rw [hn] at hE hc hl hok ⊢
  rw [hlo] at hT
  have H := Lib.hid hE
  have HN := Lib.hid hn
  have HLO := Lib.hid hlo
  have HOK := Lib.hid hok
  have HT := Lib.hid hT
  clear hE hn hok hT hlo
  go_enter Tryd.func56, Tryd.ntmps56
  go_wp2_with fail
  go_loopg [10] n (fun gk s10 wr => ∃ (k : Nat) (m : Nat → Int → Option Nat), s10 = .int .i64 (k : Int) ∧ k + gk = n ∧ Hid (IsTrie wr lo m (vF (l.take k))) ∧ Hid (m 0 0 = some w.heap.size) ∧ Hid (Below lo w wr) ∧ w.heap.size < wr.heap.size)
  case atStart => exact ⟨0, m0 lo, rfl, by omega, HT, Lib.hid (by rw [HLO.out]; rfl), Lib.hid (Below.alloc (Below.refl _ _) (by rw [HLO.out]; exact Nat.le_refl _) _), by simp⟩
  case round =>
    obtain ⟨k, m, rfl, hk, hT, hr, hB, hsz⟩ := hrel
    by_cases hg : gk = 0
    · subst hg
      obtain rfl : k = n := by omega
      have hdn : decide ((k : Int) < (k : Int)) = false := by simp
      go_wp2_with fail
      go_ret
      refine ⟨w.heap.size, m, rfl, ?_, hr.out, hsz, by rw [HLO.out]; exact hB.out⟩
      have := hT.out
      rw [← HN.out, List.take_length] at this
      rw [HLO.out]; exact this
    · have hkn : k < n := by omega
      have hkI : (k : Int) < (n : Int) := by omega
      have k0 : (0 : Int) ≤ (k : Int) := by omega
      have hgk : 1 ≤ gk := by omega
      obtain ⟨b, off, rfl, hb, c0, c1, c2⟩ := (H.out.below (by rw [HLO.out]; exact hB.out)).get k hkn
      have hok := HOK.out k hkn
      have hsn : vF (l.take (k + 1)) = updV (vF (l.take k)) (l.getD k (0, 0, 0)) := by rw [take_snoc (by rw [HN.out]; exact hkn), vF_upd]
      obtain ⟨ent, hent⟩ : ∃ e, l.getD k (0, 0, 0) = e := ⟨_, rfl⟩
      rw [hent] at c0 c1 c2 hok hsn
      obtain ⟨b0, b8, f0, f255, _⟩ := entOk_parts hok
      obtain ⟨f, bt, vi⟩ := ent
      simp only at c0 c1 c2 b0 b8 f0 f255
      obtain ⟨K, rfl⟩ : ∃ K : Nat, bt = (K : Int) := ⟨bt.toNat, by omega⟩
      have HS := Lib.hid hsn
      have HK := Lib.hid hk
      clear hsn hent hok hk hg
      go_wp2_with (go_at_call 71; refine (put_any w.heap.size lo m _ (f, (K : Int), vi) K rfl (by omega) f0 f255 _ (hT.out.below (by repeat (first | exact Below.refl _ _ | assumption | refine Below.drew ?_ | refine belowDrewN ?_ _ | refine Below.alloc ?_ (by first | exact Nat.le_refl _ | omega | (simp; done) | (simp; omega)) _ | refine Below.setCell ?_ (by first | exact Nat.le_refl _ | omega | (simp; done) | (simp; omega)) _))) hr.out (by rw [← HLO.out]; simp; omega)).mono ?_; rintro e w1 ⟨rfl, ⟨m', hT', hr'⟩, hb1, hs1⟩; have BB := Lib.hid (Below.trans (hB.out.trans (by refine Below.mono (B := wr.heap.size) ?_ (by rw [← HLO.out]; omega); repeat (first | exact Below.refl _ _ | assumption | refine Below.drew ?_ | refine belowDrewN ?_ _ | refine Below.alloc ?_ (by first | exact Nat.le_refl _ | omega | (simp; done) | (simp; omega)) _ | refine Below.setCell ?_ (by first | exact Nat.le_refl _ | omega | (simp; done) | (simp; omega)) _))) hb1); have HT' := Lib.hid hT'; have HR' := Lib.hid hr'; have hs2 : w.heap.size < w1.heap.size := (by simp at hs1; omega); clear hT' hr' hb1)
      go_roundg (gk - 1)
      case measure => omega
      case rel => exact ⟨k + 1, m', by go_num, by have := HK.out; omega, Lib.hid (by rw [HS.out]; exact HT'.out), HR', BB, hs2⟩
end Go.Proofs.YtnjkifnlimfhnaaDoor
