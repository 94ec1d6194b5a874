/- The walk of FnExactRanksPlay. -/
import Derived.Test.YtlkchhedlbaomaaRanksExactPick
import Derived.Test.YtlkchhedlbaomaaRanksMark3
import Derived.Test.YtlkchhedlbaomaaRanksPlayS
namespace Go.Proofs.Ytlkchhedlbaomaa
open Go.RowKit
set_option linter.unusedVariables false

set_option maxHeartbeats 2000000 in
theorem heldWays_any (v : Value) (ws : List (List Int)) (w : World) (h : RowsAt w v (marksOf ws)) (hl : ws.length ≤ 3) (hs : ∀ i, i < ws.length → (ws.getD i []).length ≤ 4) :
    Calls Try.prog 48 #[v, .int .i64 1] w fun e w' => e = .returned (.int .i64 (1 + offs ws ws.length)) ∧ w' = w := by
  obtain ⟨a, cap, rfl, hc, hm⟩ := h.form
  rw [marksOf_len] at hc h ⊢
  obtain ⟨n, hn⟩ : ∃ n, ws.length = n := ⟨_, rfl⟩
  have hle := offs_le hs
  rw [hn] at hc h hl hs hle ⊢
  have HN := Lib.hid hn
  have H := Lib.hid h
  have HS := Lib.hid hs
  clear hn h hs
  have hz := offs_zero ws
  have HZ := Lib.hid hz
  have HLE := Lib.hid hle
  clear hz hle
  go_enter Try.func48, Try.ntmps48
  go_wp2_with fail
  go_loopg [1, 5] n (fun gh s i wr => ∃ (j o : Nat), i = .int .i64 j ∧ s = .int .i64 (1 + o) ∧ j + gh = n ∧ wr = w ∧ o ≤ 12 ∧ Hid (offs ws j = o))
  case atStart => exact ⟨0, 0, rfl, rfl, by omega, rfl, by omega, HZ⟩
  case round =>
    obtain ⟨j, o, rfl, rfl, hj, rfl, ho, hof⟩ := hrel
    by_cases hg0 : gk = 0
    · subst hg0
      obtain rfl : j = n := by omega
      go_wp2_with fail
      go_ret
      exact ⟨by rw [hof.out]; rfl, rfl⟩
    · have hjn : j < n := by omega
      obtain ⟨b, off, u, rfl, hb, hx, hu⟩ := H.out.get j hjn
      rw [marksOf_get (by rw [HN.out]; exact hjn), hof.out] at hu
      have hl4 := HS.out j hjn
      have hsucc := offs_succ (ws := ws) (by rw [HN.out]; exact hjn : j < ws.length)
      have hle1 := HLE.out (j + 1) (by omega)
      rw [hsucc, hof.out] at hle1
      obtain ⟨m, hmm⟩ : ∃ m, (ws.getD j []).length = m := ⟨_, rfl⟩
      rw [hmm] at hu hl4 hsucc hle1
      have hcall := heldIntS_any u m (1 + o) wr hu (by omega) (by omega)
      have HC := Lib.hid hcall
      have HSU := Lib.hid hsucc
      have HJ := Lib.hid hj
      clear hcall hsucc hj hu hmm
      have hq : ¬ (1 + (o : Int) + (m : Int)) < 0 := by omega
      go_wp2_with (go_at_call 49; refine (HC.out).mono ?_; rintro e wr ⟨rfl, rfl⟩)
      go_roundg (gk - 1)
      case measure => omega
      case rel => exact ⟨j + 1, o + m, by go_num, by go_num, by have := HJ.out; omega, rfl, by omega, Lib.hid (by rw [HSU.out, hof.out])⟩

theorem Ways.marked {w w' : World} {g lo lo' hi' : Nat} {vs : List Value} {ws : List (List Int)} (h : Ways w g lo vs ws) (hm : Marked lo' hi' w w') (hr : ∀ i, i < 3 → OwnInts w' lo (vs.getD i undef) (ws.getD i [])) : Ways w' g lo vs ws :=
  ⟨h.vl, h.wl, owns_marked h.own (by decide) hm, hr, h.apart⟩
theorem WaysOwn.out {w w' : World} {lo lo' hi' : Nat} {v : Value} {ws : List (List Int)} (h : WaysOwn w lo v ws) (hm : Marked lo' hi' w w') (hle : hi' ≤ lo) : WaysOwn w' lo v ws := by
  rcases h with h | ⟨g, vs, h1, h2, h3⟩
  · exact .inl h
  · exact .inr ⟨g, vs, h1, h2, h3.marked hm fun i hi => (h3.rows i hi).out hm hle⟩
theorem WaysOwn.below {w w' : World} {lo : Nat} {v : Value} {ws : List (List Int)} (h : WaysOwn w lo v ws) (hb : Below w.heap.size w w') : WaysOwn w' lo v ws := by
  rcases h with h | ⟨g, vs, h1, h2, h3⟩
  · exact .inl h
  · exact .inr ⟨g, vs, h1, h2, h3.below hb⟩
/-- .. all of which lies below C -/
def WaysUpto (w : World) (lo C : Nat) (v : Value) (ws : List (List Int)) : Prop :=
  (ws = [] ∧ ∃ a cap, v = .slice a 0 cap ∧ cap ≤ 9223372036854775807) ∨ ∃ g vs, v = .slice (some ⟨g, 0, none⟩) 3 3 ∧ lo ≤ g ∧ Ways w g lo vs ws ∧ ∀ i, i < 3 → ∀ k, (vs.getD i undef).ownBlock = some k → k < C
theorem WaysOwn.upto {w : World} {lo : Nat} {v : Value} {ws : List (List Int)} (h : WaysOwn w lo v ws) : WaysUpto w lo w.heap.size v ws := by
  rcases h with h | ⟨g, vs, h1, h2, h3⟩
  · exact .inl h
  · exact .inr ⟨g, vs, h1, h2, h3, fun i hi k hk => (World.ownsRow.lt (h3.rows i hi) k hk).2⟩
theorem WaysUpto.own {w : World} {lo C : Nat} {v : Value} {ws : List (List Int)} (h : WaysUpto w lo C v ws) : WaysOwn w lo v ws := by
  rcases h with h | ⟨g, vs, h1, h2, h3, _⟩
  · exact .inl h
  · exact .inr ⟨g, vs, h1, h2, h3⟩
theorem WaysUpto.below {w w' : World} {lo C : Nat} {v : Value} {ws : List (List Int)} (h : WaysUpto w lo C v ws) (hb : Below w.heap.size w w') : WaysUpto w' lo C v ws := by
  rcases h with h | ⟨g, vs, h1, h2, h3, h4⟩
  · exact .inl h
  · exact .inr ⟨g, vs, h1, h2, h3.below hb, h4⟩
theorem WaysUpto.marked {w w' : World} {lo C lo' hi' : Nat} {v : Value} {ws : List (List Int)} (h : WaysUpto w lo C v ws) (hm : Marked lo' hi' w w') (hle : C ≤ lo') : WaysUpto w' lo C v ws := by
  rcases h with h | ⟨g, vs, h1, h2, h3, h4⟩
  · exact .inl h
  · refine .inr ⟨g, vs, h1, h2, h3.marked hm fun i hi => ?_, h4⟩
    exact (OwnUpto.marked ⟨h3.rows i hi, h4 i hi⟩ hm hle).1
theorem stepW_small {r : List (List (List Int))} (hr : ranksOk r = true) {ws : List (List Int)} {h : Int} (h1 : 1 ≤ h) (h3 : h ≤ 3) (hs : ∀ i, (ws.getD i []).length ≤ 4) : ∀ i, ((stepW r ws h).getD i []).length ≤ 4 := by
  intro i
  unfold stepW
  obtain ⟨q, hq⟩ : ∃ q, (h - 1).toNat = q := ⟨_, rfl⟩
  rw [hq]
  have hq3 : q < 3 := by omega
  by_cases hi : i = q
  · subst hi
    by_cases hl : i < ws.length
    · have e : (ws.set i (pickF (r.getD i []) ws)).getD i [] = pickF (r.getD i []) ws := by rw [List.getD_eq_getElem?_getD, List.getElem?_set_self hl]; rfl
      rw [e]
      rcases pickF_mem (r.getD i []) ws with e | e
      · rw [e]; simp
      · exact (good_of_ranksOk hr hq3 _ e).2.1
    · rw [List.set_eq_of_length_le (by omega)]; exact hs i
  · have e : (ws.set q (pickF (r.getD q []) ws)).getD i [] = ws.getD i [] := by rw [List.getD_eq_getElem?_getD, List.getElem?_set_ne (Ne.symm hi), List.getD_eq_getElem?_getD]
    rw [e]; exact hs i
theorem foldW_small {r : List (List (List Int))} (hr : ranksOk r = true) : ∀ (order : List Int) (ws : List (List Int)), (∀ h ∈ order, 1 ≤ h ∧ h ≤ 3) → (∀ i, (ws.getD i []).length ≤ 4) → ∀ i, ((order.foldl (stepW r) ws).getD i []).length ≤ 4
  | [], _, _, hs => hs
  | h :: t, ws, hh, hs => by
    rw [List.foldl_cons]
    exact foldW_small hr t _ (fun x hx => hh x (List.mem_cons_of_mem _ hx)) (stepW_small hr (hh h (List.mem_cons_self ..)).1 (hh h (List.mem_cons_self ..)).2 hs)
theorem playF_small (r : List (List (List Int))) (order : List Int) : (playF r order).1.length ≤ 3 ∧ ∀ i, ((playF r order).1.getD i []).length ≤ 4 := by
  unfold playF
  by_cases h : ranksOk r = true ∧ orderOk order = true
  · rw [if_pos h]
    refine ⟨by rw [playW_len]; omega, foldW_small h.1 order _ (fun x hx => ?_) (fun i => ?_)⟩
    · obtain ⟨k, hk, rfl⟩ := List.getElem_of_mem hx
      have := orderOk_at h.2 hk
      have e : order.getD k 0 = order[k] := by simp [List.getElem?_eq_getElem hk]
      rw [e] at this; exact this
    · match i with
      | 0 => simp
      | 1 => simp
      | 2 => simp
      | n + 3 => simp
  · rw [if_neg h]; simp

theorem eqRows' {r : List (List Int)} : ∀ W u u2 lo lo', WaysOwn W lo u r → WaysOwn W lo' u2 r → Calls Try.prog 40 #[u, u2] W fun e w' => e = .returned (.bool true) ∧ Below W.heap.size W w' := fun W u u2 _ _ hu hu2 => eqRows W u u2 hu.rowsAt hu2.rowsAt
theorem cpInts {v : Value} {r : List Int} {w : World} (hv : IntsAt w v r) (hs : Small1 r) :
    ∀ W, Below w.heap.size w W → Calls Try.prog 43 #[v] W fun e w' => ∃ v', e = .returned v' ∧ OwnInts w' W.heap.size v' r ∧ Below W.heap.size W w' := fun W hW => toIntS_new v r W (hv.below hW) hs

set_option maxRecDepth 100000 in
set_option maxHeartbeats 8000000 in
theorem exactRanksPlay_walk (v : Value) (r : List (List (List Int))) (u : Value) (order : List Int) (w : World) (hv : GridAt w v r) (hu : IntsAt w u order) :
    Calls Try.prog 13 #[v, u] w fun e w' => e = .returned (.bool true) ∧ Below w.heap.size w w' := by
  have hsz := szIntSSS_any v r 1048576 w hv (by omega) (by omega)
  have hco := fun hs => cpGrid hv hs
  have hco2 := fun hs => cpInts hu hs
  obtain ⟨a, cap, rfl, hc, hm⟩ := hv.form
  obtain ⟨ua, uc, rfl, huc, hum⟩ := hu.form
  obtain ⟨hsm1, hsm2⟩ := playF_small r order
  obtain ⟨P, hP⟩ : ∃ P, (playF r order).1 = P := ⟨_, rfl⟩
  obtain ⟨d, hd⟩ : ∃ d, (playF r order).2 = d := ⟨_, rfl⟩
  rw [hP] at hsm1 hsm2
  have hok : ∀ W u u2, GridAt W u r → IntsAt W u2 order → Calls Try.prog 27 #[u, u2] W fun e w' => ∃ v', e = .returned (.tuple #[v', .bool d]) ∧ WaysOwn w' W.heap.size v' P ∧ Below W.heap.size W w' := fun W u u2 hu hu2 => by rw [← hP, ← hd]; exact implPlay_any u u2 r order W hu hu2
  have hos : ∀ W u u2, GridAt W u r → IntsAt W u2 order → Calls Try.prog 26 #[u, u2] W fun e w' => ∃ v', e = .returned (.tuple #[v', .bool d]) ∧ WaysOwn w' W.heap.size v' P ∧ Below W.heap.size W w' := fun W u u2 hu hu2 => by rw [← hP, ← hd]; exact specPlay_any u u2 r order W hu hu2
  obtain ⟨E, hE⟩ : ∃ E, offs P P.length = E := ⟨_, rfl⟩
  have hE12 : E ≤ 12 := by have := offs_le (fun i _ => hsm2 i) P.length (Nat.le_refl _); rw [hE] at this; omega
  have hmk : ∀ W lo v, WaysOwn W lo v P → Calls Try.prog 47 #[v, .int .i64 1] W fun e w' => e = .returned (.int .i64 (1 + E)) ∧ Marked lo W.heap.size W w' ∧ RowsAt w' v (marksOf P) := fun W lo v h => by rw [← hE]; exact markWays_any lo W.heap.size v P W h (Nat.le_refl _) (fun i _ => hsm2 i)
  have hhd : ∀ W v, RowsAt W v (marksOf P) → Calls Try.prog 48 #[v, .int .i64 1] W fun e w' => e = .returned (.int .i64 (1 + E)) ∧ w' = W := fun W v h => by rw [← hE]; exact heldWays_any v P W h hsm1 (fun i _ => hsm2 i)
  have HSZ := Lib.hid hsz
  have HCO := Lib.hid hco
  have HCO2 := Lib.hid hco2
  have HOK := Lib.hid hok
  have HOS := Lib.hid hos
  have HMK := Lib.hid hmk
  have HHD := Lib.hid hhd
  have BB := Lib.hid (Below.refl w.heap.size w)
  clear hsz hco hco2 hok hos hv hu hsm1 hsm2 hP hd hE hmk hhd
  by_cases hbig : 1048576 < order.length
  · have hb' : (1048576 : Int) < (order.length : Int) := by omega
    go_enter Try.func13, Try.ntmps13
    go_wp2_with fail
    go_ret
    exact ⟨rfl, Below.refl _ _⟩
  · have hb' : ¬ (1048576 : Int) < (order.length : Int) := by omega
    have HS2 : Hid (Small1 order) := Lib.hid (by unfold Small1; omega)
    go_enter Try.func13, Try.ntmps13
    go_wp2_with fail
    refine (HSZ.out).mono ?_
    rintro e w ⟨k, rfl, hk1, hk2, hsm, rfl⟩
    have HSM := Lib.hid hsm
    clear hsm
    by_cases hk : k < 0
    · go_wp2_with fail
      go_ret
      exact ⟨rfl, Below.refl _ _⟩
    · have HS : Hid (Small3 r) := Lib.hid (HSM.out (by omega))
      go_wp2_with fail
      refine (HCO.out HS.out _ BB.out).mono ?_
      rintro e w1 ⟨v1, rfl, hn, hb⟩
      have sw1 := hb.size  -- SIZEKEEP
      have BB := Lib.hid (BB.out.trans (hb.mono BB.out.size))
      have G1 := Lib.hid (hn.grid)
      clear hn
      clear hb
      go_wp2_with fail
      refine (HCO2.out HS2.out _ BB.out).mono ?_
      rintro e w2 ⟨v2, rfl, hn, hb⟩
      have sw2 := hb.size  -- SIZEKEEP
      have BB := Lib.hid (BB.out.trans (hb.mono BB.out.size))
      have G1 := Lib.hid (G1.out.below hb)
      have G2 := Lib.hid (hn.ints)
      clear hn
      clear hb
      go_wp2_with fail
      refine (HOS.out _ _ _ G1.out G2.out).mono ?_
      rintro e w3 ⟨v3, rfl, hn, hb⟩
      have sw3 := hb.size  -- SIZEKEEP
      have BB := Lib.hid (BB.out.trans (hb.mono BB.out.size))
      have W0 := Lib.hid (hn.upto)
      clear hn
      clear hb
      go_wp2_with fail
      refine (HCO.out HS.out _ BB.out).mono ?_
      rintro e w4 ⟨v4, rfl, hn, hb⟩
      have sw4 := hb.size  -- SIZEKEEP
      have BB := Lib.hid (BB.out.trans (hb.mono BB.out.size))
      have W0 := Lib.hid (W0.out.below hb)
      have G4 := Lib.hid (hn.grid)
      have GH := Lib.hid (hn.has (Nat.le_refl _))
      clear hn
      clear hb
      go_wp2_with fail
      refine (HCO2.out HS2.out _ BB.out).mono ?_
      rintro e w5 ⟨v5, rfl, hn, hb⟩
      have sw5 := hb.size  -- SIZEKEEP
      have BB := Lib.hid (BB.out.trans (hb.mono BB.out.size))
      have W0 := Lib.hid (W0.out.below hb)
      have G4 := Lib.hid (G4.out.below hb)
      have GH := Lib.hid (GH.out.below hb)
      have G5 := Lib.hid (hn.ints)
      have RH := Lib.hid (hn.has (Nat.le_refl _))
      clear hn
      clear hb
      go_wp2_with fail
      refine (HOK.out _ _ _ G4.out G5.out).mono ?_
      rintro e w6 ⟨v6, rfl, hn, hb⟩
      have sw6 := hb.size  -- SIZEKEEP
      have BB := Lib.hid (BB.out.trans (hb.mono BB.out.size))
      have W0 := Lib.hid (W0.out.below hb)
      have G4 := Lib.hid (G4.out.below hb)
      have GH := Lib.hid (GH.out.below hb)
      have G5 := Lib.hid (G5.out.below hb)
      have RH := Lib.hid (RH.out.below hb)
      have P6 := Lib.hid (hn)
      clear hn
      clear hb
      go_wp2_with fail
      refine (eqRows' _ _ _ _ _ P6.out W0.out.own).mono ?_
      rintro e w7 ⟨rfl, hb⟩
      have sw7 := hb.size  -- SIZEKEEP
      have BB := Lib.hid (BB.out.trans (hb.mono BB.out.size))
      have W0 := Lib.hid (W0.out.below hb)
      have G4 := Lib.hid (G4.out.below hb)
      have GH := Lib.hid (GH.out.below hb)
      have G5 := Lib.hid (G5.out.below hb)
      have RH := Lib.hid (RH.out.below hb)
      have P6 := Lib.hid (P6.out.below hb)
      clear hb
      go_wp2_with fail
      refine (HCO.out HS.out _ BB.out).mono ?_
      rintro e w8 ⟨v8, rfl, hn, hb⟩
      have sw8 := hb.size  -- SIZEKEEP
      have BB := Lib.hid (BB.out.trans (hb.mono BB.out.size))
      have W0 := Lib.hid (W0.out.below hb)
      have G4 := Lib.hid (G4.out.below hb)
      have GH := Lib.hid (GH.out.below hb)
      have G5 := Lib.hid (G5.out.below hb)
      have RH := Lib.hid (RH.out.below hb)
      have P6 := Lib.hid (P6.out.below hb)
      have G8 := Lib.hid (hn.grid)
      clear hn
      clear hb
      go_wp2_with fail
      refine (eqGrid _ _ _ G4.out G8.out).mono ?_
      rintro e w9 ⟨rfl, hb⟩
      have sw9 := hb.size  -- SIZEKEEP
      have BB := Lib.hid (BB.out.trans (hb.mono BB.out.size))
      have W0 := Lib.hid (W0.out.below hb)
      have GH := Lib.hid (GH.out.below hb)
      have G5 := Lib.hid (G5.out.below hb)
      have RH := Lib.hid (RH.out.below hb)
      have P6 := Lib.hid (P6.out.below hb)
      clear hb
      go_wp2_with fail
      refine (HCO2.out HS2.out _ BB.out).mono ?_
      rintro e w10 ⟨v10, rfl, hn, hb⟩
      have sw10 := hb.size  -- SIZEKEEP
      have BB := Lib.hid (BB.out.trans (hb.mono BB.out.size))
      have W0 := Lib.hid (W0.out.below hb)
      have GH := Lib.hid (GH.out.below hb)
      have G5 := Lib.hid (G5.out.below hb)
      have RH := Lib.hid (RH.out.below hb)
      have P6 := Lib.hid (P6.out.below hb)
      have G10 := Lib.hid (hn.ints)
      clear hn
      clear hb
      go_wp2_with fail
      refine (eqInts _ _ _ G5.out G10.out).mono ?_
      rintro e w11 ⟨rfl, hb⟩
      have sw11 := hb.size  -- SIZEKEEP
      have BB := Lib.hid (BB.out.trans (hb.mono BB.out.size))
      have W0 := Lib.hid (W0.out.below hb)
      have GH := Lib.hid (GH.out.below hb)
      have RH := Lib.hid (RH.out.below hb)
      have P6 := Lib.hid (P6.out.below hb)
      clear hb
      go_wp2_with fail
      refine (marks3 w3.heap.size w4.heap.size v4 r 1 _ GH.out HS.out (by omega) (by omega)).mono ?_
      rintro e w12 ⟨k3, rfl, p0, p1, hm⟩
      have sw12 := hm.size
      have BB := Lib.hid (BB.out.trans (hm.below (B := w.heap.size) (by omega)))
      have W0 := Lib.hid (W0.out.marked hm (by omega))
      have RH := Lib.hid (RH.out.marked hm)
      have P6 := Lib.hid (P6.out.out hm (by omega))
      clear hm
      go_wp2_with fail
      refine (marks1 w4.heap.size w5.heap.size v5 order k3 _ RH.out HS2.out p0 (by omega)).mono ?_
      rintro e w13 ⟨k4, rfl, q0, q1, hm⟩
      have sw13 := hm.size
      have BB := Lib.hid (BB.out.trans (hm.below (B := w.heap.size) (by omega)))
      have W0 := Lib.hid (W0.out.marked hm (by omega))
      have P6 := Lib.hid (P6.out.out hm (by omega))
      clear hm
      have hk4 : ¬ k4 < 0 := by omega
      go_wp2_with fail
      refine (eqRows' _ _ _ _ _ P6.out W0.out.own).mono ?_
      rintro e w14 ⟨rfl, hb⟩
      have sw14 := hb.size  -- SIZEKEEP
      have BB := Lib.hid (BB.out.trans (hb.mono BB.out.size))
      have W0 := Lib.hid (W0.out.below hb)
      have P6 := Lib.hid (P6.out.below hb)
      clear hb
      go_wp2_with fail
      refine (HMK.out _ _ _ P6.out).mono ?_
      rintro e w15 ⟨rfl, hm, hn⟩
      have sw15 := hm.size
      have BB := Lib.hid (BB.out.trans (hm.below (B := w.heap.size) (by omega)))
      have W0 := Lib.hid (W0.out.marked hm (by omega))
      have M6 := Lib.hid (hn)
      clear hm hn
      go_wp2_with fail
      refine (HHD.out _ _ M6.out).mono ?_
      rintro e w16 ⟨rfl, rfl⟩
      have hq : ¬ (1 + (E : Int)) < 0 := by omega
      go_wp2_with fail
      refine (HCO.out HS.out _ BB.out).mono ?_
      rintro e w17 ⟨v17, rfl, hn, hb⟩
      have sw17 := hb.size  -- SIZEKEEP
      have BB := Lib.hid (BB.out.trans (hb.mono BB.out.size))
      have W0 := Lib.hid (W0.out.below hb)
      have M6 := Lib.hid (M6.out.below hb)
      have G1 := Lib.hid (hn.grid)
      clear hn
      clear hb
      go_wp2_with fail
      refine (HCO2.out HS2.out _ BB.out).mono ?_
      rintro e w18 ⟨v18, rfl, hn, hb⟩
      have sw18 := hb.size  -- SIZEKEEP
      have BB := Lib.hid (BB.out.trans (hb.mono BB.out.size))
      have W0 := Lib.hid (W0.out.below hb)
      have M6 := Lib.hid (M6.out.below hb)
      have G1 := Lib.hid (G1.out.below hb)
      have G2 := Lib.hid (hn.ints)
      clear hn
      clear hb
      go_wp2_with fail
      refine (HOK.out _ _ _ G1.out G2.out).mono ?_
      rintro e w19 ⟨v19, rfl, hn, hb⟩
      have sw19 := hb.size  -- SIZEKEEP
      have BB := Lib.hid (BB.out.trans (hb.mono BB.out.size))
      have W0 := Lib.hid (W0.out.below hb)
      have M6 := Lib.hid (M6.out.below hb)
      have P19 := Lib.hid (hn)
      clear hn
      clear hb
      go_wp2_with fail
      refine (eqRows' _ _ _ _ _ P19.out W0.out.own).mono ?_
      rintro e w20 ⟨rfl, hb⟩
      have sw20 := hb.size  -- SIZEKEEP
      have BB := Lib.hid (BB.out.trans (hb.mono BB.out.size))
      have M6 := Lib.hid (M6.out.below hb)
      clear hb
      go_wp2_with fail
      refine (HHD.out _ _ M6.out).mono ?_
      rintro e w21 ⟨rfl, rfl⟩
      go_wp2_with fail
      go_ret
      exact ⟨rfl, BB.out⟩
end Go.Proofs.Ytlkchhedlbaomaa
