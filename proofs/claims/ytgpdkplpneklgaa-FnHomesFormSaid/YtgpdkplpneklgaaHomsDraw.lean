/- spec.DrawHomesOk. -/
import Derived.Test.YtgpdkplpneklgaaDrawHoms
import Derived.Test.YtgpdkplpneklgaaHomsForm
namespace Go.Proofs.Ytgpdkplpneklgaa
open Go.RowKit
set_option linter.unusedVariables false

def HomsDrawn (w : World) (e : Ending) (w' : World) : Prop :=
  ∃ (v hv : Value) (rs : List (List Int)) (l : List Ent) (n : Nat), e = .returned (.tuple #[v, hv]) ∧ RowsAt w' v rs ∧ rs.length = n ∧ 2 ≤ n ∧ n ≤ 5 ∧ EntsAt w' hv l ∧ l.length ≤ 6 ∧ Below w.heap.size w w'
theorem RS.rows {k : Nat} {a : Option Addr} {len' cap : Nat} {zs : List Int} {w W : World} {q n : Nat} {v : Value} (h : RS k a len' cap zs w W q v n n) : ∃ rs, rs.length = n ∧ RowsAt W v rs := by
  obtain ⟨rs, h1, h2, _⟩ := h.mat.rows
  exact ⟨rs, h1, h2⟩
set_option maxHeartbeats 2000000 in
theorem drawHomesOk_any (a : Option Addr) (len cap : Nat) (zs : List Int) (w : World) (h : IsRow .u8 w a len cap zs) :
    Calls Try.prog 9 #[.slice a len cap] w (HomsDrawn w) := by
  obtain ⟨hm, hc⟩ := h.bounds
  have H := Lib.hid h
  clear h
  go_enter Try.func9, Try.ntmps9
  go_wp2_with fail
  refine (l6Open_any _ _ _ zs _ H.out hm hc).mono ?_
  rintro e w1 ⟨len', rfl, hw1, hr⟩
  have hO0 : Only w.heap.size w w1 := by rw [hw1]; exact (Only.refl _ _).alloc _
  have hs1 : w.heap.size < w1.heap.size := by rw [hw1]; simp
  have R := Lib.hid hr
  have O1 := Lib.hid hO0
  clear hr hO0 hw1
  go_wp2_with fail
  refine (l92Homes_any _ _ _ _ zs 0 _ (by omega) hs1 R.out).mono ?_
  rintro e w2 ⟨mv, hv, n, q, l, rfl, hn2, hn5, hq0, hq1, hS, hH, hl5⟩
  obtain ⟨ma, mc, e, hmc, hmm⟩ := hS.mat.form
  subst e
  obtain ⟨ha, hac, e, hhc, hhm⟩ := hH.form
  subst e
  obtain ⟨L, hL⟩ : ∃ L, l.length = L := ⟨_, rfl⟩
  rw [hL] at hH hhc hl5 ⊢
  have HL := Lib.hid hL
  have S := Lib.hid hS
  have Hm := Lib.hid hH
  have hw2 : w1.heap.size ≤ w2.heap.size := hS.size
  clear hS hH hL
  have hfin : ∀ W, Only w.heap.size w1 W → Below w.heap.size w W := fun W hW => (O1.out.trans hW).below (Nat.le_refl _) (Nat.le_refl _)
  have HF := Lib.hid hfin
  clear hfin
  go_wp2_with fail
  refine (pick_any 5 w.heap.size a len' cap zs _ _ (by omega) (RS.rd S.out) (by omega)).mono ?_
  rintro e w3 ⟨xt, rfl, xt0, xt1, hr, hO, hs⟩
  have S3 := Lib.hid (RS.picked S.out hr hO)
  have H3 := Lib.hid (Hm.out.only hO hs1)
  clear hr hO hs S Hm R O1
  by_cases hxt : xt = 0
  · subst hxt
    go_wp2_with fail
    refine (l91Range_any w.heap.size a len' cap zs _ _ (by omega) (RS.rd S3.out).lt (RS.rd S3.out)).mono ?_
    rintro e w4 ⟨f, b, rfl, hf0, hf1, hb0, hb1, ⟨q4, hq40, hq41, hR4⟩, hO4⟩
    have S4 := Lib.hid (S3.out.picked hR4 hO4)
    have H4 := Lib.hid (H3.out.only hO4 hs1)
    clear hR4 hO4 S3 H3
    go_wp2_with fail
    refine (pick_any 7 w.heap.size a len' cap zs _ _ (by omega) (RS.rd S4.out) (by omega)).mono ?_
    rintro e w5 ⟨xv, rfl, xv0, xv1, hr, hO, hs⟩
    have S5 := Lib.hid (RS.picked S4.out hr hO)
    have H5 := Lib.hid (H4.out.only hO hs1)
    have hs5 : w1.heap.size ≤ w5.heap.size := S5.out.size
    clear hr hO hs S4 H4
    go_wp2_with (at_builtin; refine wpList_append_homS rfl (.tmp 18) (.tmp 24) rfl w1.heap.size _ l (f, b, xv) L HL.out rfl H5.out rfl (by omega) hs5 S5.out (Nat.le_refl _) ?_; intro ad c w6 hH6 hS6 hs6; have S6 := Lib.hid hS6; have H6 := Lib.hid hH6; clear hS6 hH6)
    obtain ⟨rs, hrl, hrr⟩ := S6.out.rows
    refine bodyPost_ret (results_tmp2 rfl _ _ _) rfl ?_
    exact ⟨_, _, rs, _, n, rfl, hrr, hrl, hn2, hn5, H6.out.ents, by rw [List.length_append, HL.out]; simp; omega, HF.out _ S6.out.on⟩
  · have hxb : (xt == 0) = false := by simp [hxt]
    obtain ⟨rs, hrl, hrr⟩ := S3.out.rows
    have HRR := Lib.hid hrr
    have HRL := Lib.hid hrl
    clear hrr hrl
    go_wp2_with fail
    refine bodyPost_ret (results_tmp2 rfl _ _ _) rfl ?_
    exact ⟨_, _, rs, l, n, rfl, HRR.out, HRL.out, hn2, hn5, H3.out.ents, by rw [HL.out]; omega, HF.out _ S3.out.on⟩
end Go.Proofs.Ytgpdkplpneklgaa
