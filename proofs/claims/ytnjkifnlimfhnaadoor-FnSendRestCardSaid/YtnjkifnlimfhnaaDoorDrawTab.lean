/- spec.l91Table: a table is drawn. -/
import Derived.Test.YtnjkifnlimfhnaaDoorHomNew
namespace Go.Proofs.YtnjkifnlimfhnaaDoor
open Go.RowKit
set_option linter.unusedVariables false

theorem RdAt.belowLo {w w' : World} {k : Nat} {a : Option Addr} {len cap : Nat} {zs : List Int} {p lo : Nat} (h : RdAt w k a len cap zs p) (hb : Below lo w w') (hk : k < lo) : RdAt w' k a len cap zs p := by
  have key : ∀ b, b < w.heap.size → b ≤ k → w'.heap[b]? = w.heap[b]? := fun b hl hle => hb.block b (by omega)
  have hkw := h.lt
  refine ⟨(World.cell?_of_block (key k hkw (Nat.le_refl _))).trans h.c0, (World.cell?_of_block (key k hkw (Nat.le_refl _))).trans h.c1, (World.frozen?_of_block (key k hkw (Nat.le_refl _))).trans h.f1, ?_, h.far, h.short⟩
  rcases h.row with r | ⟨x, hx, h1, h2, h3, h4, h5⟩
  · exact .inl r
  · refine .inr ⟨x, hx, h1, h2, h3, fun i hi => ?_, h5⟩
    have hxk := h.far x hx (by omega)
    refine (World.cell?_of_block (key (x.add i).block (lt_of_cell (h4 i hi)) ?_)).trans (h4 i hi)
    rw [add_block]; omega
theorem Only.belowLo {k : Nat} {a w w' : World} (h : Only k a w) (hb : Below a.heap.size w w') : Only k a w' :=
  ⟨hb.os.trans h.os, hb.tape.trans h.tape, hb.output.trans h.output, Nat.le_trans h.size hb.size, fun b hl hk => (hb.block b hl).trans (h.block b hl hk)⟩
theorem RS.of {k : Nat} {a : Option Addr} {len' cap : Nat} {zs : List Int} {w W : World} {q : Nat} (hR : RdAt W k a len' cap zs q) (hO : Only k w W) (hk : k < w.heap.size) : RS k a len' cap zs w W q (.slice none 0 0) 0 0 :=
  ⟨hR, hO, ⟨[], rfl, World.ownsRow_nil _ _ _ _, fun i hi => by omega⟩, hk⟩
theorem RS.belowLo {k : Nat} {a : Option Addr} {len' cap : Nat} {zs : List Int} {w W W' : World} {q : Nat} {v : Value} {m n : Nat} (h : RS k a len' cap zs w W q v m n) (hb : Below w.heap.size W W') : RS k a len' cap zs w W' q (.slice none 0 0) 0 0 :=
  RS.of (h.rd.belowLo hb h.far) (h.on.belowLo hb) h.far
def TablePost (k : Nat) (a : Option Addr) (len' cap : Nat) (zs : List Int) (p : Nat) (w : World) (e : Ending) (w' : World) : Prop :=
  ∃ (v : Value) (q : Nat) (l : List Ent), e = .returned v ∧ p ≤ q ∧ q ≤ p + 200 ∧ RdAt w' k a len' cap zs q ∧ Only k w w' ∧ EntNew w' w.heap.size v l ∧ l.length ≤ 60
set_option maxRecDepth 100000 in
set_option maxHeartbeats 8000000 in
theorem l91Table_any (k : Nat) (a : Option Addr) (len' cap : Nat) (zs : List Int) (p : Nat) (w : World) (hp : p ≤ 90000) (hkw : k < w.heap.size) (hR : RdAt w k a len' cap zs p) :
    Calls Tryd.prog 53 #[.pointer (some ⟨k, 0, none⟩)] w (TablePost k a len' cap zs p w) := by
  unfold TablePost
  have T := Lib.hid (EntNew.zero w)
  have S := Lib.hid ((RS.of hR (Only.refl k w) hkw).alloc (.cells #[] 35))
  clear hR
  go_enter Tryd.func53, Tryd.ntmps53
  go_wp2_with fail
  refine (pick_any 8 k a len' cap zs _ _ (by omega) (RS.rd (by first | exact S.out | exact S.out.drew | exact S.out.alloc _ | exact (S.out.drew).alloc _ | exact (S.out.alloc _).drew | exact (S.out.alloc _).alloc _)) (by omega)).mono ?_
  rintro e w1 ⟨xn, rfl, xn0, xn1, hr, hO, hs⟩
  (try simp at hs)
  have S := Lib.hid (RS.picked (by first | exact S.out | exact S.out.drew | exact S.out.alloc _ | exact (S.out.drew).alloc _ | exact (S.out.alloc _).drew | exact (S.out.alloc _).alloc _) hr hO)
  clear hr
  have T1 := Lib.hid (T.out.only hO hkw)
  clear hO hs T
  obtain ⟨N, hN⟩ : ∃ N : Nat, xn = (N : Int) := ⟨xn.toNat, by omega⟩
  subst hN
  have hN7 : N ≤ 7 := by omega
  go_wp2_with fail
  go_loopg [3, 4] N (fun gk s3 s4 wr => ∃ (l : List Ent) (q : Nat), s4 = .int .i64 (gk : Int) ∧ l.length + gk ≤ 7 ∧ p ≤ q ∧ q + 10 * gk ≤ p + 80 ∧ Hid (RS k a len' cap zs w wr q (.slice none 0 0) 0 0) ∧ Hid (EntNew wr w.heap.size s3 l))
  case atStart => exact ⟨[], _, rfl, by simp; omega, by omega, by omega, S, T1⟩
  case round =>
    clear S T1
    obtain ⟨l, q, rfl, hl, hq0, hq1, S, T⟩ := hrel
    obtain ⟨ta, tc, e, htc, htm⟩ := T.out.form
    subst e
    obtain ⟨L, hL⟩ : ∃ L, l.length = L := ⟨_, rfl⟩
    rw [hL] at hl htc T ⊢
    have HL := Lib.hid hL
    have hL7 : L ≤ 7 := by omega
    clear hL
    by_cases hg : gk = 0
    · subst hg
      have hdn : decide ((0 : Int) < ((0 : Nat) : Int)) = false := by simp
      go_wp2_with fail
      refine (pick_any 30 k a len' cap zs _ _ (by omega) (RS.rd (by first | exact S.out | exact S.out.drew | exact S.out.alloc _ | exact (S.out.drew).alloc _ | exact (S.out.alloc _).drew | exact (S.out.alloc _).alloc _)) (by omega)).mono ?_
      rintro e w2 ⟨xe, rfl, xe0, xe1, hr, hO, hs⟩
      (try simp at hs)
      have S := Lib.hid (RS.picked (by first | exact S.out | exact S.out.drew | exact S.out.alloc _ | exact (S.out.drew).alloc _ | exact (S.out.alloc _).drew | exact (S.out.alloc _).alloc _) hr hO)
      clear hr
      have T2 := Lib.hid (T.out.only hO S.out.far)
      have hs2 := S.out.size
      clear hO hs T
      by_cases hx0 : xe = 0
      · subst hx0
        go_wp2_with fail
        refine (l91Range_any k a len' cap zs _ _ (by omega) S.out.rd.lt S.out.rd).mono ?_
        rintro e w3 ⟨f, b, rfl, hf0, hf1, hb0, hb1, ⟨q3, hq30, hq31, hR3⟩, hO3⟩
        have S := Lib.hid (S.out.picked hR3 hO3)
        have T3 := Lib.hid (T2.out.only hO3 S.out.far)
        clear hR3 hO3 T2
        go_wp2_with fail
        refine (pick_any 11 k a len' cap zs _ _ (by omega) (RS.rd (by first | exact S.out | exact S.out.drew | exact S.out.alloc _ | exact (S.out.drew).alloc _ | exact (S.out.alloc _).drew | exact (S.out.alloc _).alloc _)) (by omega)).mono ?_
        rintro e w4 ⟨xv, rfl, xv0, xv1, hr, hO, hs⟩
        (try simp at hs)
        have S := Lib.hid (RS.picked (by first | exact S.out | exact S.out.drew | exact S.out.alloc _ | exact (S.out.drew).alloc _ | exact (S.out.alloc _).drew | exact (S.out.alloc _).alloc _) hr hO)
        clear hr
        have T4 := Lib.hid (T3.out.only hO S.out.far)
        have hs4 := S.out.size
        clear hO hs T3
        go_wp2_with (at_builtin; refine wpList_append_ent rfl (.tmp 29) (.tmp 35) rfl w.heap.size _ l (f, b, xv) rfl T4.out rfl (by rw [HL.out]; omega) hs4 ?_; intro ad c w5 hT5 hb5 hs5; have T5 := Lib.hid hT5; have S5 := Lib.hid (S.out.belowLo hb5); clear hT5 hb5)
        go_ret
        exact ⟨_, _, _, rfl, by omega, by omega, S5.out.rd, S5.out.on, T5.out, by rw [List.length_append, HL.out]; simp; omega⟩
      · have hxb : (xe == 0) = false := by simp [hx0]
        by_cases hx1 : xe = 1
        · subst hx1
          go_wp2_with fail
          go_loopg [3, 6] 32 (fun gk s3 s6 wr => ∃ (l : List Ent) (q c : Nat), s6 = .int .i64 (c : Int) ∧ c + gk = 32 ∧ l.length ≤ 12 ∧ p ≤ q ∧ q + gk ≤ p + 120 ∧ Hid (RS k a len' cap zs w wr q (.slice none 0 0) 0 0) ∧ Hid (EntNew wr w.heap.size s3 l))
          case atStart => exact ⟨l, _, 0, rfl, by omega, by rw [HL.out]; omega, by omega, by omega, S, T2⟩
          case round =>
            clear S T2 htc htm HL
            obtain ⟨l, q, c, rfl, hc, hl, hq0, hq1, S, T⟩ := hrel
            obtain ⟨ta, tc, e, htc, htm⟩ := T.out.form
            subst e
            obtain ⟨L, hL⟩ : ∃ L, l.length = L := ⟨_, rfl⟩
            rw [hL] at hl htc T ⊢
            have HL := Lib.hid hL
            clear hL
            by_cases hg : gk = 0
            · subst hg
              have hc32 : ¬ (c : Int) < 32 := by omega
              go_wp2_with fail
              go_ret
              exact ⟨_, rfl, q, by omega, by omega, S.out.rd, S.out.on, l, T.out, by rw [HL.out]; omega⟩
            · have hc32 : (c : Int) < 32 := by omega
              have hgk : 1 ≤ gk := by omega
              by_cases hL12 : (L : Int) < 12
              · have hLn : L < 12 := by omega
                go_wp2_with fail
                refine (pick_any 3 k a len' cap zs _ _ (by omega) (RS.rd (by first | exact S.out | exact S.out.drew | exact S.out.alloc _ | exact (S.out.drew).alloc _ | exact (S.out.alloc _).drew | exact (S.out.alloc _).alloc _)) (by omega)).mono ?_
                rintro e w4 ⟨xv, rfl, xv0, xv1, hr, hO, hs⟩
                (try simp at hs)
                have S := Lib.hid (RS.picked (by first | exact S.out | exact S.out.drew | exact S.out.alloc _ | exact (S.out.drew).alloc _ | exact (S.out.alloc _).drew | exact (S.out.alloc _).alloc _) hr hO)
                clear hr
                have T4 := Lib.hid (T.out.only hO S.out.far)
                have hs4 := S.out.size
                clear hO hs T
                have HP := l2Put_any _ l (8 * (c : Int), 5, 1 + xv) _ T4.out.ents (by rw [HL.out]; omega)
                unfold entV at HP
                dsimp only at HP
                go_wp2_with fail
                refine HP.mono ?_
                clear HP
                rintro e w6 ⟨v6, rfl, hT6, hb6⟩
                have S6 := Lib.hid (S.out.below hb6)
                have T6 := Lib.hid (hT6.lift hs4)
                clear hT6 hb6 S T4
                go_wp2_with fail
                go_roundg (gk - 1)
                case measure => omega
                case rel => exact ⟨putF l (8 * (c : Int), 5, 1 + xv), q + 1, c + 1, by go_num, by omega, by have := putF_len l (8 * (c : Int), 5, 1 + xv); rw [HL.out] at this; omega, by omega, by omega, S6, T6⟩
              · go_wp2_with fail
                go_ret
                exact ⟨_, rfl, q, by omega, by omega, S.out.rd, S.out.on, l, T.out, by rw [HL.out]; omega⟩
        · have hxb1 : (xe == 1) = false := by simp [hx1]
          go_wp2_with fail
          go_ret
          exact ⟨_, _, _, rfl, by omega, by omega, S.out.rd, S.out.on, T2.out, by rw [HL.out]; omega⟩
    · have hgI : (0 : Int) < (gk : Int) := by omega
      have hgk : 1 ≤ gk := by omega
      go_wp2_with fail
      refine (l91Range_any k a len' cap zs q _ (by omega) S.out.rd.lt S.out.rd).mono ?_
      rintro e w3 ⟨f, b, rfl, hf0, hf1, hb0, hb1, ⟨q3, hq30, hq31, hR3⟩, hO3⟩
      have S := Lib.hid (S.out.picked hR3 hO3)
      have T3 := Lib.hid (T.out.only hO3 S.out.far)
      clear hR3 hO3 T
      go_wp2_with fail
      refine (pick_any 4 k a len' cap zs _ _ (by omega) (RS.rd (by first | exact S.out | exact S.out.drew | exact S.out.alloc _ | exact (S.out.drew).alloc _ | exact (S.out.alloc _).drew | exact (S.out.alloc _).alloc _)) (by omega)).mono ?_
      rintro e w4 ⟨xv, rfl, xv0, xv1, hr, hO, hs⟩
      (try simp at hs)
      have S := Lib.hid (RS.picked (by first | exact S.out | exact S.out.drew | exact S.out.alloc _ | exact (S.out.drew).alloc _ | exact (S.out.alloc _).drew | exact (S.out.alloc _).alloc _) hr hO)
      clear hr
      have T4 := Lib.hid (T3.out.only hO S.out.far)
      have hs4 := S.out.size
      clear hO hs T3
      go_wp2_with fail
      refine (l2Entry_any f b (1 + xv) _).mono ?_
      rintro e w5 ⟨rfl, hb5⟩
      have hB5 : Below w4.heap.size w4 w5 := (by refine Below.trans ?_ (hb5.mono (by first | exact Nat.le_refl _ | omega | (simp; done) | (simp; omega))); repeat (first | exact Below.refl _ _ | assumption | refine Below.drew ?_ | refine belowDrewN ?_ _ | refine Below.alloc ?_ (by first | exact Nat.le_refl _ | omega | (simp; done) | (simp; omega)) _ | refine Below.setCell ?_ (by first | exact Nat.le_refl _ | omega | (simp; done) | (simp; omega)) _))
      have S5 := Lib.hid (S.out.below hB5)
      have T5 := Lib.hid (T4.out.below hB5)
      have c0 : w5.cell? ⟨w4.heap.size, 0, none⟩ = some (.int .i64 f) := by rw [hb5.cell (p := ⟨w4.heap.size, 0, none⟩) (by simp)]; simp
      have c1 : w5.cell? ⟨w4.heap.size, 1, none⟩ = some (.int .i64 b) := by rw [hb5.cell (p := ⟨w4.heap.size, 1, none⟩) (by simp)]; simp
      have c2 : w5.cell? ⟨w4.heap.size, 2, none⟩ = some (.int .i64 (1 + xv)) := by rw [hb5.cell (p := ⟨w4.heap.size, 2, none⟩) (by simp)]; simp
      clear hb5 hB5 S T4
      cases hok : entOkF (f, b, 1 + xv)
      · go_wp2_with fail
        go_roundg (gk - 1)
        case measure => omega
        case rel => exact ⟨l, q3 + 1, by go_num, by rw [HL.out]; omega, by omega, by omega, S5, T5⟩
      · have HP := l2Put_any _ l (f, b, 1 + xv) _ T5.out.ents (by rw [HL.out]; omega)
        unfold entV at HP
        dsimp only at HP
        go_wp2_with fail
        refine HP.mono ?_
        clear HP
        rintro e w6 ⟨v6, rfl, hT6, hb6⟩
        have hs5 := S5.out.size
        have S6 := Lib.hid (S5.out.below hb6)
        have T6 := Lib.hid (hT6.lift hs5)
        clear hT6 hb6 S5 T5
        go_wp2_with fail
        go_roundg (gk - 1)
        case measure => omega
        case rel => exact ⟨putF l (f, b, 1 + xv), q3 + 1, by go_num, by have := putF_len l (f, b, 1 + xv); rw [HL.out] at this; omega, by omega, by omega, S6, T6⟩
end Go.Proofs.YtnjkifnlimfhnaaDoor
