/- The walk of FnSendWay. -/
import Derived.Test.YtgpdkplpneklgaaSendDraw
import Derived.Test.YtgpdkplpneklgaaWayS
import Derived.Test.YtgpdkplpneklgaaRanksInts
namespace Go.Proofs.Ytgpdkplpneklgaa
open Go.RowKit
set_option linter.unusedVariables false

/-- houses, each the next one of the one before -/
structure Chain31 (f : Int → Int) (n : Nat) (w0 : Int) (way : List Int) (last : Int) : Prop where
  pos : 1 ≤ way.length
  first : way.getD 0 0 = w0
  last : way.getD (way.length - 1) 0 = last
  step : ∀ i, i + 1 < way.length → way.getD (i + 1) 0 = f (way.getD i 0) ∧ way.getD (i + 1) 0 ≠ way.getD i 0
  inn : ∀ i, i < way.length → 1 ≤ way.getD i 0 ∧ way.getD i 0 ≤ (n : Int)
theorem snoc_getD (way : List Int) (y : Int) (i : Nat) (hi : i < way.length) : (way ++ [y]).getD i 0 = way.getD i 0 := by simp only [List.getD_eq_getElem?_getD]; rw [List.getElem?_append_left hi]
theorem snoc_last (way : List Int) (y : Int) : (way ++ [y]).getD way.length 0 = y := by simp
theorem Chain31.snoc {f : Int → Int} {n : Nat} {w0 : Int} {way : List Int} {h : Int} (c : Chain31 f n w0 way h) (hne : f h ≠ h) (h1 : 1 ≤ f h) (hn : f h ≤ (n : Int)) : Chain31 f n w0 (way ++ [f h]) (f h) := by
  have hp := c.pos
  have hl : (way ++ [f h]).length = way.length + 1 := by simp
  refine ⟨by omega, by rw [snoc_getD _ _ _ (by omega)]; exact c.first, by rw [hl, Nat.add_sub_cancel]; exact snoc_last _ _, fun i hi => ?_, fun i hi => ?_⟩
  · rw [hl] at hi
    by_cases hil : i + 1 < way.length
    · rw [snoc_getD _ _ _ hil, snoc_getD _ _ _ (by omega)]; exact c.step i hil
    · have e : i + 1 = way.length := by omega
      have el := c.last
      rw [show way.length - 1 = i by omega] at el
      rw [e, snoc_last, snoc_getD _ _ _ (by omega), el]
      exact ⟨rfl, hne⟩
  · rw [hl] at hi
    by_cases hil : i < way.length
    · rw [snoc_getD _ _ _ hil]; exact c.inn i hil
    · obtain rfl : i = way.length := by omega
      rw [snoc_last]; exact ⟨h1, hn⟩
theorem goW_chain {f : Int → Int} {n : Nat} {w0 : Int} : ∀ (k : Nat) (h : Int) (way : List Int), Chain31 f n w0 way h → ((∀ j, j < k → f (itF f h j) ≠ itF f h j ∧ 1 ≤ f (itF f h j) ∧ f (itF f h j) ≤ (n : Int)) → f (itF f h k) ≠ itF f h k) →
    ∃ last, Chain31 f n w0 (goW f n k h way).1 last ∧ (goW f n k h way).2 = decide (f last = last)
  | 0, h, way, c, hne => by
    have := hne (fun j hj => by omega)
    simp only [itF] at this
    exact ⟨h, c, by show false = _; rw [decide_eq_false this]⟩
  | k + 1, h, way, c, hne => by
    have e2 : goW f n (k + 1) h way = if f h = h then (way, true) else if f h < 1 ∨ (n : Int) < f h then (way, false) else goW f n k (f h) (way ++ [f h]) := rfl
    rw [e2]
    by_cases a : f h = h
    · rw [if_pos a]; exact ⟨h, c, by rw [decide_eq_true a]⟩
    · rw [if_neg a]
      by_cases b : f h < 1 ∨ (n : Int) < f h
      · rw [if_pos b]; exact ⟨h, c, by rw [decide_eq_false a]⟩
      · rw [if_neg b]
        refine goW_chain k (f h) _ (c.snoc a (by omega) (by omega)) (fun hj => ?_)
        rw [itF_shift]
        refine hne (fun j hjk => ?_)
        cases j with
        | zero => exact ⟨a, by simp only [itF]; omega, by simp only [itF]; omega⟩
        | succ j => have := hj j (by omega); rw [itF_shift] at this; exact this
theorem send_drew {P : Program} {f : FuncId} {args : Array Value} {w : World} {v : Value} (h : Calls P f args w fun e w' => e = .returned v ∧ Drew w w') : Calls P f args w fun e w' => e = .returned v ∧ Below w.heap.size w w' := h.mono fun e w' h => ⟨h.1, h.2.below _⟩
theorem send_next {ls : List (List Ent)} {x y : Int} (hok : tablesOkF ls = true) (ha : addrF x = true) (h1 : 1 ≤ y) (hn : y ≤ (ls.length : Int)) : sendF ls y x = nextF ls x y := by
  unfold sendF nextF
  rw [if_pos ⟨hok, h1, hn, ha⟩]
theorem way_facts (ls : List (List Ent)) (h x : Int) : wayF ls h x = ([], false) ∨ ∃ last, 1 ≤ (wayF ls h x).1.length ∧ (wayF ls h x).1.length ≤ ls.length + 1 ∧ (wayF ls h x).1.getD 0 0 = h ∧ (wayF ls h x).1.getD ((wayF ls h x).1.length - 1) 0 = last ∧
    (∀ i, i + 1 < (wayF ls h x).1.length → sendF ls ((wayF ls h x).1.getD i 0) x = (wayF ls h x).1.getD (i + 1) 0 ∧ (wayF ls h x).1.getD (i + 1) 0 ≠ (wayF ls h x).1.getD i 0) ∧ (wayF ls h x).2 = decide (sendF ls last x = last) := by
  by_cases hd : tablesOkF ls = true ∧ 1 ≤ h ∧ h ≤ (ls.length : Int) ∧ addrF x = true
  · right
    have e : wayF ls h x = goW (nextF ls x) ls.length ls.length h [h] := by unfold wayF; rw [if_pos hd]
    obtain ⟨hok, h1, hn, ha⟩ := hd
    have c0 : Chain31 (nextF ls x) ls.length h [h] h := ⟨by simp, rfl, rfl, fun i hi => by simp at hi, fun i hi => by
      obtain rfl : i = 0 := by simp at hi; omega
      exact ⟨h1, hn⟩⟩
    obtain ⟨last, c, he⟩ := goW_chain ls.length h [h] c0 (fun hgo => no_end h1 hn hgo)
    have hlen := goW_len (nextF ls x) ls.length ls.length h [h]
    rw [← e] at c he hlen
    have hp := c.pos
    have hlast := c.inn ((wayF ls h x).1.length - 1) (by omega)
    rw [c.last] at hlast
    refine ⟨last, c.pos, by simp at hlen; omega, c.first, c.last, fun i hi => ?_, by rw [he, send_next hok ha hlast.1 hlast.2]⟩
    have hin := c.inn i (by omega)
    have hst := c.step i hi
    exact ⟨by rw [send_next hok ha hin.1 hin.2]; exact hst.1.symm, hst.2⟩
  · left; unfold wayF; rw [if_neg hd]
set_option maxRecDepth 100000 in
set_option maxHeartbeats 8000000 in
theorem sendWay_walk (a : Option Addr) (len cap : Nat) (zs : List Int) (w : World) (h : IsRow .u8 w a len cap zs) :
    Calls Try.prog 8 #[.slice a len cap] w fun e w' => e = .returned (.bool true) ∧ Below w.heap.size w w' := by
  obtain ⟨hm, hc⟩ := h.bounds
  have hc' := hc
  unfold maxLen at hc'
  have H := Lib.hid h
  clear h
  go_enter Try.func8, Try.ntmps8
  by_cases hl : 1048576 < len
  · go_wp2_with fail
    go_ret
    exact ⟨rfl, Below.refl _ _⟩
  · go_wp2_with fail
    refine (drawSendWay_any _ _ _ zs _ H.out).mono ?_
    rintro e w1 ⟨v, h, ad, ls, rfl, h1, h5, a0, a6, hT, hT3, hb⟩
    obtain ⟨va, vc, e', hvc, hvm⟩ := hT.form
    subst e'
    obtain ⟨n, hn⟩ : ∃ n, ls.length = n := ⟨_, rfl⟩
    have hn5 : n ≤ 5 := by rw [← hn]; exact hT3.1
    have hspc := specSendWay_any _ ls h ad w1 hT
    have himp := fun W hW => implSendWay_any _ ls h ad W (hT.below (w' := W) hW)
    have hnxt := fun W hW y => implSendNext_any _ ls y ad W (hT.below (w' := W) hW)
    have hfac := way_facts ls h ad
    obtain ⟨way, hway⟩ : ∃ l, (wayF ls h ad).1 = l := ⟨_, rfl⟩
    obtain ⟨ok, hok⟩ : ∃ b, (wayF ls h ad).2 = b := ⟨_, rfl⟩
    have hnil : wayF ls h ad = ([], false) → way = [] ∧ ok = false := fun e => by rw [← hway, ← hok, e]; exact ⟨rfl, rfl⟩
    unfold WayPost at hspc himp
    rw [hn] at hT hvc hspc himp hnxt hfac ⊢
    rw [hway, hok] at hspc himp hfac
    have T := Lib.hid hT
    have HSP := Lib.hid hspc
    have HIM := Lib.hid himp
    have HNX := Lib.hid hnxt
    have BB := Lib.hid hb
    have HFC : Hid ((way = [] ∧ ok = false) ∨ ∃ last, 1 ≤ way.length ∧ way.length ≤ n + 1 ∧ way.getD 0 0 = h ∧ way.getD (way.length - 1) 0 = last ∧ (∀ i, i + 1 < way.length → sendF ls (way.getD i 0) ad = way.getD (i + 1) 0 ∧ way.getD (i + 1) 0 ≠ way.getD i 0) ∧ ok = decide (sendF ls last ad = last)) := Lib.hid (hfac.imp hnil id)
    clear hT hspc himp hnxt hb hT3 hn hfac hway hok hnil
    obtain ⟨m, hm'⟩ : ∃ m, way.length = m := ⟨_, rfl⟩
    have HM := Lib.hid hm'
    clear hm'
    go_wp2_with fail
    refine HSP.out.mono ?_
    rintro e w2 ⟨v2, rfl, ho2, hb2⟩
    have O2 := Lib.hid ho2
    have B2 := Lib.hid hb2
    obtain ⟨sa, sc, e', _, _⟩ := ho2.form
    subst e'
    clear ho2 hb2
    rw [HM.out] at O2 ⊢
    go_wp2_with fail
    refine (HIM.out w2 B2.out).mono ?_
    rintro e w3 ⟨v3, rfl, ho3, hb3⟩
    have O3 := Lib.hid ho3
    have O23 := Lib.hid (O2.out.below hb3)
    have B3 := Lib.hid (B2.out.trans (hb3.mono B2.out.size))
    obtain ⟨ta, tc, e', htc, htm⟩ := ho3.form
    subst e'
    clear ho3 hb3 O2
    rw [HM.out] at O3 htc ⊢
    have hly : ∀ W, Below w3.heap.size w3 W → Calls Try.prog 33 #[.slice ta m tc, .slice sa m sc] W fun e w' => e = .returned (.bool true) ∧ Below W.heap.size W w' := fun W hW => by
      have := send_drew (lyInts_any _ _ way way W (O3.out.ints.below hW) (O23.out.ints.below hW)); simpa using this
    have HLY := Lib.hid hly
    have WI := Lib.hid O3.out.ints
    have hokk : (ok != ok) = false := by simp
    have hoke : (ok == ok) = true := by simp
    have hfin : ∀ W, Below w1.heap.size w1 W → Below w.heap.size w W := fun W hW => BB.out.trans (hW.mono BB.out.size)
    have HFN := Lib.hid hfin
    have HB3 := Lib.hid B3.out
    clear hfin hly B2 O3 O23
    by_cases hm0 : m = 0
    · subst hm0
      go_wp2_with fail
      refine (HLY.out w3 (Below.refl _ _)).mono ?_
      rintro e w4 ⟨rfl, hb4⟩
      have B4 := Lib.hid (B3.out.trans (hb4.mono B3.out.size))
      have L4 := Lib.hid hb4
      clear hb4
      go_wp2_with fail
      refine (HLY.out w4 L4.out).mono ?_
      rintro e w5 ⟨rfl, hb5⟩
      have B5 := Lib.hid (B4.out.trans (hb5.mono B4.out.size))
      clear hb5
      go_wp2_with fail
      go_ret
      exact ⟨rfl, HFN.out _ B5.out⟩
    · have hmb : ((m : Int) == 0) = false := by simp [hm0]
      have hfc := HFC.out
      rcases hfc with ⟨e, _⟩ | ⟨last, f1, f2, f3, f4, f5, f6⟩
      · exfalso; apply hm0; rw [← HM.out, e]; rfl
      rw [HM.out] at f1 f2 f4 f5
      have F3 := Lib.hid f3
      have F4 := Lib.hid f4
      have F5 := Lib.hid f5
      have F6 := Lib.hid f6
      clear f3 f4 f5 f6 HFC
      go_wp2_with fail
      refine (HLY.out w3 (Below.refl _ _)).mono ?_
      rintro e w4 ⟨rfl, hb4⟩
      have B4 := Lib.hid (B3.out.trans (hb4.mono B3.out.size))
      have L4 := Lib.hid hb4
      clear hb4
      go_wp2_with fail
      go_loopg [10] (m - 1) (fun gk s wr => ∃ j : Nat, s = .int .i64 ((j : Int) + 1) ∧ j + 1 + gk = m ∧ Hid (Below w1.heap.size w1 wr) ∧ Hid (Below w3.heap.size w3 wr))
      case atStart => exact ⟨0, by go_num, by omega, B4, L4⟩
      case round =>
        clear B4 L4
        obtain ⟨j, rfl, hj, B, L⟩ := hrel
        by_cases hg : gk = 0
        · subst hg
          have hjm : (j : Int) + 1 = (m : Int) := by omega
          have hdn : decide ((j : Int) + 1 < (m : Int)) = false := by simp; omega
          have hj1 : (m : Int) - 1 = (j : Int) := by omega
          have hjn : j < m := by omega
          have hjI : (j : Int) < (m : Int) := by omega
          have j0 : (0 : Int) ≤ (j : Int) := by omega
          have hmI : (0 : Int) < (m : Int) := by omega
          have hmN : 0 < m := by omega
          obtain ⟨tb, toff, rfl, htb, z0⟩ := (WI.out.below L.out).get 0 hmN
          obtain ⟨_, _, e, _, z1⟩ := (WI.out.below L.out).get j hjn
          simp only [Option.some.injEq, Addr.mk.injEq] at e
          obtain ⟨rfl, rfl, _⟩ := e
          rw [F3.out] at z0
          rw [Nat.add_zero] at z0
          have e4 := F4.out
          rw [show m - 1 = j by omega] at e4
          rw [e4] at z1
          have HC := Lib.hid (HNX.out wr B.out last)
          obtain ⟨R, hR⟩ : ∃ R, sendF ls last ad = R := ⟨_, rfl⟩
          have h6 := F6.out
          rw [hR] at HC h6
          have hmn : (m : Int) ≤ (n : Int) + 1 := by omega
          have hRl : (R == last) = ok := by rw [h6]; rfl
          have HJ := Lib.hid hjm
          clear e4 hR h6 hj hjm
          go_wp2_with fail
          refine HC.out.mono ?_
          rintro e w5 ⟨rfl, hb5⟩
          have B5 := Lib.hid (B.out.trans (hb5.mono B.out.size))
          clear hb5
          go_wp2_with fail
          go_ret
          exact ⟨rfl, HFN.out _ B5.out⟩
        · have hgk : 1 ≤ gk := by omega
          have hjm : j + 1 < m := by omega
          have hjI : (j : Int) + 1 < (m : Int) := by omega
          have hjI2 : (j : Int) < (m : Int) := by omega
          have j0 : (0 : Int) ≤ (j : Int) := by omega
          have j1 : (0 : Int) ≤ (j : Int) + 1 := by omega
          obtain ⟨q, hq⟩ : ∃ q : Nat, q = j + 1 := ⟨_, rfl⟩
          have hqI : (j : Int) + 1 = (q : Int) := by omega
          have hq1 : (q : Int) - 1 = (j : Int) := by omega
          have i3 : IntKind.i64.wrap (j : Int) = (j : Int) := IntWalk.i64_in _ (by omega)
          have hqm : q < m := by omega
          have hqmI : (q : Int) < (m : Int) := by omega
          have q0 : (0 : Int) ≤ (q : Int) := by omega
          obtain ⟨tb, toff, rfl, htb, z0⟩ := (WI.out.below L.out).get q hqm
          obtain ⟨_, _, e, _, z1⟩ := (WI.out.below L.out).get j (by omega)
          simp only [Option.some.injEq, Addr.mk.injEq] at e
          obtain ⟨rfl, rfl, _⟩ := e
          obtain ⟨s1, s2⟩ := F5.out j hjm
          rw [← hq] at s1 s2
          obtain ⟨x, hx⟩ : ∃ x, way.getD q 0 = x := ⟨_, rfl⟩
          obtain ⟨y, hy⟩ : ∃ y, way.getD j 0 = y := ⟨_, rfl⟩
          rw [hx] at z0 s1 s2
          rw [hy] at z1 s1 s2
          have hxx : (x != x) = false := by simp
          have hxy : (x == y) = false := by simp [s2]
          have hnx : ∀ W, Below w1.heap.size w1 W → Calls Try.prog 21 #[.slice va n vc, .int .i64 y, .int .i64 ad] W fun e w' => e = .returned (.int .i64 x) ∧ Below W.heap.size W w' := fun W hW => by rw [← s1]; exact HNX.out W hW y
          have HC := Lib.hid hnx
          have HJ := Lib.hid hj
          have HQ := Lib.hid hq
          have S2 := Lib.hid s2
          rw [hqI]
          clear hnx s1 s2 hx hy hj hq hg hqI hjI
          go_wp2_with fail
          refine wp_region_noPanic ?_
          refine wp_region_held_drew (S := (fun w' => w'.cell? ⟨tb, toff + q, none⟩ = some (.int .i64 x) ∧ w'.cell? ⟨tb, toff + j, none⟩ = some (.int .i64 y))) (by kernel_rfl) (by simp [go_sem, *]) (fun hHeld => ?_)
          refine wpAnyH_take (i := 0) (v := _) (by (simp only [List.getElem?_toArray, List.getElem?_cons_zero]) <;> rfl) (by kernel_rfl) (by kernel_rfl) (by kernel_rfl) (fun _ _ _ h => h) (Or.inl ⟨by rfl, fun w hSw => by ((try dsimp only at hSw); go_simp) <;> with_reducible rfl⟩) (by assumption) ?_
          (try simp only [Act.put, List.setIfInBounds_toArray, List.set_cons_zero, List.set_cons_succ])
          refine wpAnyH_take (i := 1) (v := _) (by (simp only [List.getElem?_toArray, List.getElem?_cons_succ, List.getElem?_cons_zero]) <;> rfl) (by kernel_rfl) (by kernel_rfl) (by kernel_rfl) (fun _ _ _ h => h) (Or.inl ⟨by rfl, fun w hSw => by ((try dsimp only at hSw); go_simp) <;> with_reducible rfl⟩) (by assumption) ?_
          (try simp only [Act.put, List.setIfInBounds_toArray, List.set_cons_zero, List.set_cons_succ])
          refine wpAnyH_take (i := 2) (v := _) (by (simp only [List.getElem?_toArray, List.getElem?_cons_succ, List.getElem?_cons_zero]) <;> rfl) (by kernel_rfl) (by kernel_rfl) (by kernel_rfl) (fun _ _ _ h => h) (Or.inl ⟨by rfl, fun w hSw => by ((try dsimp only at hSw); go_simp) <;> with_reducible rfl⟩) (by assumption) ?_
          (try simp only [Act.put, List.setIfInBounds_toArray, List.set_cons_zero, List.set_cons_succ])
          refine wpAnyH_take (i := 3) (v := _) (by (simp only [List.getElem?_toArray, List.getElem?_cons_succ, List.getElem?_cons_zero]) <;> rfl) (by kernel_rfl) (by kernel_rfl) (by kernel_rfl) (fun _ _ _ h => h) (Or.inl ⟨by rfl, fun w hSw => by ((try dsimp only at hSw); go_simp) <;> with_reducible rfl⟩) (by assumption) ?_
          (try simp only [Act.put, List.setIfInBounds_toArray, List.set_cons_zero, List.set_cons_succ])
          refine wpAnyH_take (i := 4) (v := _) (by (simp only [List.getElem?_toArray, List.getElem?_cons_succ, List.getElem?_cons_zero]) <;> rfl) (by kernel_rfl) (by kernel_rfl) (by kernel_rfl) (fun _ _ _ h => h) (Or.inl ⟨by rfl, fun w hSw => by ((try dsimp only at hSw); go_simp) <;> with_reducible rfl⟩) (by assumption) ?_
          (try simp only [Act.put, List.setIfInBounds_toArray, List.set_cons_zero, List.set_cons_succ])
          refine wpAnyH_take (i := 5) (v := _) (by (simp only [List.getElem?_toArray, List.getElem?_cons_succ, List.getElem?_cons_zero]) <;> rfl) (by kernel_rfl) (by kernel_rfl) (by kernel_rfl) (fun _ _ _ h => h) (Or.inl ⟨by rfl, fun w hSw => by ((try dsimp only at hSw); go_simp) <;> with_reducible rfl⟩) (by assumption) ?_
          (try simp only [Act.put, List.setIfInBounds_toArray, List.set_cons_zero, List.set_cons_succ])
          refine wpAnyH_take (i := 6) (v := _) (by (simp only [List.getElem?_toArray, List.getElem?_cons_succ, List.getElem?_cons_zero]) <;> rfl) (by kernel_rfl) (by kernel_rfl) (by kernel_rfl) (fun _ _ _ h => h) (Or.inl ⟨by rfl, fun w hSw => by ((try dsimp only at hSw); go_simp) <;> with_reducible rfl⟩) (by assumption) ?_
          (try simp only [Act.put, List.setIfInBounds_toArray, List.set_cons_zero, List.set_cons_succ])
          refine wpAnyH_take (i := 7) (v := _) (by (simp only [List.getElem?_toArray, List.getElem?_cons_succ, List.getElem?_cons_zero]) <;> rfl) (by kernel_rfl) (by kernel_rfl) (by kernel_rfl) (fun _ _ _ h => h) (Or.inl ⟨by rfl, fun w hSw => by ((try dsimp only at hSw); go_simp) <;> with_reducible rfl⟩) (by assumption) ?_
          (try simp only [Act.put, List.setIfInBounds_toArray, List.set_cons_zero, List.set_cons_succ])
          refine wpAnyH_take (i := 8) (v := _) (by (simp only [List.getElem?_toArray, List.getElem?_cons_succ, List.getElem?_cons_zero]) <;> rfl) (by kernel_rfl) (by kernel_rfl) (by kernel_rfl) (fun _ _ _ h => h) (Or.inl ⟨by rfl, fun w hSw => by ((try dsimp only at hSw); go_simp) <;> with_reducible rfl⟩) (by assumption) ?_
          (try simp only [Act.put, List.setIfInBounds_toArray, List.set_cons_zero, List.set_cons_succ])
          refine wpAnyH_take (i := 9) (v := _) (by (simp only [List.getElem?_toArray, List.getElem?_cons_succ, List.getElem?_cons_zero]) <;> rfl) (by kernel_rfl) (by kernel_rfl) (by kernel_rfl) (fun _ _ _ h => h) (Or.inl ⟨by rfl, fun w hSw => by ((try dsimp only at hSw); go_simp) <;> with_reducible rfl⟩) (by assumption) ?_
          (try simp only [Act.put, List.setIfInBounds_toArray, List.set_cons_zero, List.set_cons_succ])
          refine wpAnyH_take (i := 10) (v := _) (by (simp only [List.getElem?_toArray, List.getElem?_cons_succ, List.getElem?_cons_zero]) <;> rfl) (by kernel_rfl) (by kernel_rfl) (by kernel_rfl) (fun _ _ _ h => h) (Or.inl ⟨by rfl, fun w hSw => by ((try dsimp only at hSw); go_simp) <;> with_reducible rfl⟩) (by assumption) ?_
          (try simp only [Act.put, List.setIfInBounds_toArray, List.set_cons_zero, List.set_cons_succ])
          refine wpAnyH_ready (rs := [11]) (by kernel_rfl) (by simp) ?_
          refine AllReadyH.cons (by (simp only [List.getElem?_toArray, List.getElem?_cons_succ, List.getElem?_cons_zero]) <;> rfl) (fun K hK => ?_) AllReadyH.nil
          go_simp
          (go_at_call 21; refine (HC.out _ (by refine Below.trans B.out ?_; repeat (first | exact Below.refl _ _ | assumption | refine Below.drew ?_ | refine belowDrewN ?_ _ | refine Below.alloc ?_ (by first | exact Nat.le_refl _ | omega | (simp; done) | (simp; omega)) _ | refine Below.setCell ?_ (by first | exact Nat.le_refl _ | omega | (simp; done) | (simp; omega)) _))).mono ?_; rintro r w5 ⟨rfl, hb5⟩; have hB5 : Below wr.heap.size wr w5 := (by refine Below.trans ?_ (hb5.mono (by first | exact Nat.le_refl _ | omega | (simp; done) | (simp; omega))); repeat (first | exact Below.refl _ _ | assumption | refine Below.drew ?_ | refine belowDrewN ?_ _ | refine Below.alloc ?_ (by first | exact Nat.le_refl _ | omega | (simp; done) | (simp; omega)) _ | refine Below.setCell ?_ (by first | exact Nat.le_refl _ | omega | (simp; done) | (simp; omega)) _)); have y0 := (hB5.cell (p := ⟨tb, toff + q, none⟩) htb).trans z0; have y1 := (hB5.cell (p := ⟨tb, toff + j, none⟩) htb).trans z1; clear hb5)
          refine hK.out _ _ (by simp [go_sem, *]) (fun hHeld => ?_)
          (try simp only [Act.put, List.setIfInBounds_toArray, List.set_cons_zero, List.set_cons_succ])
          refine wpAnyH_take (i := 12) (v := _) (by (simp only [List.getElem?_toArray, List.getElem?_cons_succ, List.getElem?_cons_zero]) <;> rfl) (by kernel_rfl) (by kernel_rfl) (by kernel_rfl) (fun _ _ _ h => h) (Or.inl ⟨by rfl, fun w hSw => by ((try dsimp only at hSw); go_simp) <;> with_reducible rfl⟩) (by assumption) ?_
          (try simp only [Act.put, List.setIfInBounds_toArray, List.set_cons_zero, List.set_cons_succ])
          refine wpAnyH_take (i := 13) (v := _) (by (simp only [List.getElem?_toArray, List.getElem?_cons_succ, List.getElem?_cons_zero]) <;> rfl) (by kernel_rfl) (by kernel_rfl) (by kernel_rfl) (fun _ _ _ h => h) (Or.inl ⟨by rfl, fun w hSw => by ((try dsimp only at hSw); go_simp) <;> with_reducible rfl⟩) (by assumption) ?_
          (try simp only [Act.put, List.setIfInBounds_toArray, List.set_cons_zero, List.set_cons_succ])
          refine wpAnyH_take (i := 14) (v := _) (by (simp only [List.getElem?_toArray, List.getElem?_cons_succ, List.getElem?_cons_zero]) <;> rfl) (by kernel_rfl) (by kernel_rfl) (by kernel_rfl) (fun _ _ _ h => h) (Or.inl ⟨by rfl, fun w hSw => by ((try dsimp only at hSw); go_simp) <;> with_reducible rfl⟩) (by assumption) ?_
          (try simp only [Act.put, List.setIfInBounds_toArray, List.set_cons_zero, List.set_cons_succ])
          refine wpAnyH_take (i := 15) (v := _) (by (simp only [List.getElem?_toArray, List.getElem?_cons_succ, List.getElem?_cons_zero]) <;> rfl) (by kernel_rfl) (by kernel_rfl) (by kernel_rfl) (fun _ _ _ h => h) (Or.inl ⟨by rfl, fun w hSw => by ((try dsimp only at hSw); go_simp) <;> with_reducible rfl⟩) (by assumption) ?_
          (try simp only [Act.put, List.setIfInBounds_toArray, List.set_cons_zero, List.set_cons_succ])
          refine wpAnyH_take (i := 16) (v := _) (by (simp only [List.getElem?_toArray, List.getElem?_cons_succ, List.getElem?_cons_zero]) <;> rfl) (by kernel_rfl) (by kernel_rfl) (by kernel_rfl) (fun _ _ _ h => h) (Or.inl ⟨by rfl, fun w hSw => by ((try dsimp only at hSw); go_simp) <;> with_reducible rfl⟩) (by assumption) ?_
          (try simp only [Act.put, List.setIfInBounds_toArray, List.set_cons_zero, List.set_cons_succ])
          refine wpAnyH_take (i := 17) (v := _) (by (simp only [List.getElem?_toArray, List.getElem?_cons_succ, List.getElem?_cons_zero]) <;> rfl) (by kernel_rfl) (by kernel_rfl) (by kernel_rfl) (fun _ _ _ h => h) (Or.inl ⟨by rfl, fun w hSw => by ((try dsimp only at hSw); go_simp) <;> with_reducible rfl⟩) (by assumption) ?_
          (try simp only [Act.put, List.setIfInBounds_toArray, List.set_cons_zero, List.set_cons_succ])
          refine wpAnyH_take (i := 18) (v := _) (by (simp only [List.getElem?_toArray, List.getElem?_cons_succ, List.getElem?_cons_zero]) <;> rfl) (by kernel_rfl) (by kernel_rfl) (by kernel_rfl) (fun _ _ _ h => h) (Or.inl ⟨by rfl, fun w hSw => by ((try dsimp only at hSw); go_simp) <;> with_reducible rfl⟩) (by assumption) ?_
          (try simp only [Act.put, List.setIfInBounds_toArray, List.set_cons_zero, List.set_cons_succ])
          refine wpAnyH_take (i := 19) (v := _) (by (simp only [List.getElem?_toArray, List.getElem?_cons_succ, List.getElem?_cons_zero]) <;> rfl) (by kernel_rfl) (by kernel_rfl) (by kernel_rfl) (fun _ _ _ h => h) (Or.inl ⟨by rfl, fun w hSw => by ((try dsimp only at hSw); go_simp) <;> with_reducible rfl⟩) (by assumption) ?_
          (try simp only [Act.put, List.setIfInBounds_toArray, List.set_cons_zero, List.set_cons_succ])
          refine wpAnyH_take (i := 20) (v := _) (by (simp only [List.getElem?_toArray, List.getElem?_cons_succ, List.getElem?_cons_zero]) <;> rfl) (by kernel_rfl) (by kernel_rfl) (by kernel_rfl) (fun _ _ _ h => h) (Or.inl ⟨by rfl, fun w hSw => by ((try dsimp only at hSw); go_simp) <;> with_reducible rfl⟩) (by assumption) ?_
          (try simp only [Act.put, List.setIfInBounds_toArray, List.set_cons_zero, List.set_cons_succ])
          refine wpAnyH_take (i := 21) (v := _) (by (simp only [List.getElem?_toArray, List.getElem?_cons_succ, List.getElem?_cons_zero]) <;> rfl) (by kernel_rfl) (by kernel_rfl) (by kernel_rfl) (fun _ _ _ h => h) (Or.inl ⟨by rfl, fun w hSw => by ((try dsimp only at hSw); go_simp) <;> with_reducible rfl⟩) (by assumption) ?_
          (try simp only [Act.put, List.setIfInBounds_toArray, List.set_cons_zero, List.set_cons_succ])
          refine wpAnyH_take (i := 22) (v := _) (by (simp only [List.getElem?_toArray, List.getElem?_cons_succ, List.getElem?_cons_zero]) <;> rfl) (by kernel_rfl) (by kernel_rfl) (by kernel_rfl) (fun _ _ _ h => h) (Or.inl ⟨by rfl, fun w hSw => by ((try dsimp only at hSw); go_simp) <;> with_reducible rfl⟩) (by assumption) ?_
          (try simp only [Act.put, List.setIfInBounds_toArray, List.set_cons_zero, List.set_cons_succ])
          refine wpAnyH_take (i := 23) (v := _) (by (simp only [List.getElem?_toArray, List.getElem?_cons_succ, List.getElem?_cons_zero]) <;> rfl) (by kernel_rfl) (by kernel_rfl) (by kernel_rfl) (fun _ _ _ h => h) (Or.inl ⟨by rfl, fun w hSw => by ((try dsimp only at hSw); go_simp) <;> with_reducible rfl⟩) (by assumption) ?_
          (try simp only [Act.put, List.setIfInBounds_toArray, List.set_cons_zero, List.set_cons_succ])
          refine wpAnyH_take (i := 24) (v := _) (by (simp only [List.getElem?_toArray, List.getElem?_cons_succ, List.getElem?_cons_zero]) <;> rfl) (by kernel_rfl) (by kernel_rfl) (by kernel_rfl) (fun _ _ _ h => h) (Or.inl ⟨by rfl, fun w hSw => by ((try dsimp only at hSw); go_simp) <;> with_reducible rfl⟩) (by assumption) ?_
          (try simp only [Act.put, List.setIfInBounds_toArray, List.set_cons_zero, List.set_cons_succ])
          refine wpAnyH_done (by kernel_rfl) ?_ _
          refine NoPanic.normal ?_
          go_wp2_with fail
          go_roundg (gk - 1)
          case measure => omega
          case rel => exact ⟨j + 1, by have := HQ.out; (try subst this); go_num, by have := HJ.out; omega, Lib.hid (B.out.trans (hB5.mono B.out.size)), Lib.hid (L.out.trans (hB5.mono L.out.size))⟩
end Go.Proofs.Ytgpdkplpneklgaa
