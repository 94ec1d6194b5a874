/- The draws of FnSendNext and FnSendWay; impl.TableFind. -/
import Derived.Test.YtgpdkplpneklgaaDrawTabs
import Derived.Test.YtgpdkplpneklgaaSendI
namespace Go.Proofs.Ytgpdkplpneklgaa
open Go.RowKit
set_option linter.unusedVariables false

def SendDrawn (w : World) (e : Ending) (w' : World) : Prop :=
  ∃ (v : Value) (h ad : Int) (ls : List (List Ent)), e = .returned (.tuple #[v, .int .i64 h, .int .i64 ad]) ∧ 1 ≤ h ∧ h ≤ 5 ∧ 0 ≤ ad ∧ ad ≤ 600 ∧ TabsAt w' v ls ∧ Tabs3 ls ∧ Below w.heap.size w w'
set_option maxHeartbeats 1000000 in
theorem drawSendNext_any (a : Option Addr) (len cap : Nat) (zs : List Int) (w : World) (h : IsRow .u8 w a len cap zs) :
    Calls Try.prog 29 #[.slice a len cap] w (SendDrawn w) := by
  obtain ⟨hm, hc⟩ := h.bounds
  have H := Lib.hid h
  clear h
  go_enter Try.func29, Try.ntmps29
  go_wp2_with fail
  refine (l6Open_any _ _ _ zs _ H.out hm hc).mono ?_
  rintro e w1 ⟨len', rfl, hw1, hr⟩
  have hO0 : Only w.heap.size w w1 := by rw [hw1]; exact (Only.refl _ _).alloc _
  have hs1 : w.heap.size < w1.heap.size := by rw [hw1]; simp
  have R := Lib.hid hr
  have O1 := Lib.hid hO0
  clear hr hO0 hw1
  go_wp2_with fail
  refine (l92Tables_any _ _ _ _ zs 0 _ (by omega) hs1 R.out).mono ?_
  rintro e w2 ⟨v, h, ad, q, ls, rfl, h1, h5, a0, a6, _, _, hR, hO, hT, hT3⟩
  have hb : Below w.heap.size w w2 := (O1.out.trans hO).below (Nat.le_refl _) (Nat.le_refl _)
  have HT := Lib.hid hT.tabs
  have HT3 := Lib.hid hT3
  obtain ⟨va, vc, e', _, _⟩ := hT.form
  subst e'
  clear hR hO hT hT3
  go_wp2_with fail
  refine bodyPost_ret (v := .tuple #[.slice va ls.length vc, .int .i64 h, .int .i64 ad]) (by simp [results, Try.results29, go_sem]) rfl ?_
  exact ⟨_, h, ad, ls, rfl, h1, h5, a0, a6, HT.out, HT3.out, hb⟩
set_option maxHeartbeats 1000000 in
theorem drawSendWay_any (a : Option Addr) (len cap : Nat) (zs : List Int) (w : World) (h : IsRow .u8 w a len cap zs) :
    Calls Try.prog 32 #[.slice a len cap] w (SendDrawn w) := by
  obtain ⟨hm, hc⟩ := h.bounds
  have H := Lib.hid h
  clear h
  go_enter Try.func32, Try.ntmps32
  go_wp2_with fail
  refine (l6Open_any _ _ _ zs _ H.out hm hc).mono ?_
  rintro e w1 ⟨len', rfl, hw1, hr⟩
  have hO0 : Only w.heap.size w w1 := by rw [hw1]; exact (Only.refl _ _).alloc _
  have hs1 : w.heap.size < w1.heap.size := by rw [hw1]; simp
  have R := Lib.hid hr
  have O1 := Lib.hid hO0
  clear hr hO0 hw1
  go_wp2_with fail
  refine (l92Tables_any _ _ _ _ zs 0 _ (by omega) hs1 R.out).mono ?_
  rintro e w2 ⟨v, h, ad, q, ls, rfl, h1, h5, a0, a6, _, _, hR, hO, hT, hT3⟩
  have hb : Below w.heap.size w w2 := (O1.out.trans hO).below (Nat.le_refl _) (Nat.le_refl _)
  have HT := Lib.hid hT.tabs
  have HT3 := Lib.hid hT3
  obtain ⟨va, vc, e', _, _⟩ := hT.form
  subst e'
  clear hR hO hT hT3
  go_wp2_with fail
  refine bodyPost_ret (v := .tuple #[.slice va ls.length vc, .int .i64 h, .int .i64 ad]) (by simp [results, Try.results32, go_sem]) rfl ?_
  exact ⟨_, h, ad, ls, rfl, h1, h5, a0, a6, HT.out, HT3.out, hb⟩
def findF (l : List Ent) (x : Int) : Int := if tableOkF l = true ∧ addrF x = true then fV (vF l) x 9 else 0
set_option maxRecDepth 100000 in
set_option maxHeartbeats 4000000 in
theorem tableFind_any (v : Value) (l : List Ent) (x : Int) (w : World) (hv : EntsAt w v l) :
    Calls Try.prog 31 #[v, .int .i64 x] w fun e w' => e = .returned (.int .i64 (findF l x)) ∧ Below w.heap.size w w' := by
  obtain ⟨a, cap, rfl, hc, hm⟩ := hv.form
  have hok := implTableOk_any _ l w hv
  obtain ⟨B, hB⟩ : ∃ B, tableOkF l = B := ⟨_, rfl⟩
  obtain ⟨A, hA⟩ : ∃ A, addrF x = A := ⟨_, rfl⟩
  obtain ⟨R, hR⟩ : ∃ R, findF l x = R := ⟨_, rfl⟩
  have haddr : ∀ W, Calls Try.prog 55 #[.int .i64 x] W fun e w' => e = .returned (.bool A) ∧ Drew W w' := fun W => by rw [← hA]; exact isAddr_any x W
  have hall := fun h => tableOk_all (l := l) h
  have htr := fun h1 h2 W hE => trieOf_any (.slice a l.length cap) l h1 h2 W hE
  have hE := fun W (hb : Below w.heap.size w W) => hv.below hb
  have hR2 := hR
  unfold findF at hR2
  rw [hB, hA] at hR2
  rw [hB] at hok hall
  rw [hR]
  obtain ⟨n, hn⟩ : ∃ n, l.length = n := ⟨_, rfl⟩
  rw [hn] at hok hc htr hE hall ⊢
  have HOK := Lib.hid hok
  have HAD := Lib.hid haddr
  have HALL := Lib.hid hall
  have HTR := Lib.hid htr
  have HE := Lib.hid hE
  have HA := Lib.hid hA
  have HR := Lib.hid hR2
  clear hok haddr hall htr hE hA hR2 hR hB hn hv
  go_enter Try.func31, Try.ntmps31
  go_wp2_with fail
  refine HOK.out.mono ?_
  rintro e w1 ⟨rfl, hb1⟩
  have B1 := Lib.hid hb1
  clear hb1
  cases B
  · have e := HR.out
    rw [if_neg (by simp)] at e
    subst e
    go_wp2_with fail
    go_ret
    exact ⟨rfl, B1.out⟩
  · go_wp2_with fail
    refine (HAD.out _).mono ?_
    rintro e w2 ⟨rfl, hd⟩
    have B2 := Lib.hid (B1.out.trans (hd.below _))
    clear hd
    cases A
    · have e := HR.out
      rw [if_neg (by simp)] at e
      subst e
      go_wp2_with fail
      go_ret
      exact ⟨rfl, B2.out⟩
    · have e := HR.out
      rw [if_pos (by simp)] at e
      have hx := HA.out
      unfold addrF at hx
      simp only [Bool.and_eq_true, decide_eq_true_eq] at hx
      obtain ⟨h12, hall⟩ := HALL.out (by simp)
      have HT := Lib.hid (HTR.out h12 (fun i hi => (hall i hi).1) w2 (HE.out _ B2.out))
      have HRR := Lib.hid e
      clear e hall
      go_wp2_with fail
      refine HT.out.mono ?_
      rintro e w3 ⟨root, m, rfl, hT, hr, _, hb3⟩
      have B3 := Lib.hid (B2.out.trans (hb3.mono B2.out.size))
      have HF := Lib.hid (find_any root _ m (vF l) x hx.1 hx.2 w3 hT hr)
      rw [HRR.out] at HF
      clear hT hr hb3
      go_wp2_with fail
      refine HF.out.mono ?_
      rintro e w4 ⟨rfl, hd⟩
      have B4 := Lib.hid (B3.out.trans (hd.below _))
      clear hd
      go_wp2_with fail
      go_ret
      exact ⟨rfl, B4.out⟩
end Go.Proofs.Ytgpdkplpneklgaa
