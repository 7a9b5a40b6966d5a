/- Bare and its reference. -/
import Derived.Test.YtpnhpiniflcciaaConfF
namespace Go.Proofs.Ytpnhpiniflcciaa
set_option linter.unusedVariables false
set_option linter.unusedSimpArgs false
open Go.RowKit

/-- A thread's level without what hangs on levels above l. -/
def Cf.bk (c : Cf) (l : Int) (k : Nat) : Int := if mayB c = true ∧ (k : Int) < c.th ∧ l < c.of k then c.lv - 1 else c.of k

/-- Block B holds the configuration, k of its levels bared. -/
structure BX (wr : World) (B : Nat) (c : Cf) (l : Int) (k : Nat) : Prop where
  lv : wr.cell? ⟨B, 0, none⟩ = some (.int .i64 c.lv)
  th : wr.cell? ⟨B, 1, none⟩ = some (.int .i64 c.th)
  sl : wr.cell? ⟨B, 10, none⟩ = some (.int .i64 c.sl)
  li : wr.cell? ⟨B, 11, none⟩ = some (.int .i64 c.li)
  ge : wr.cell? ⟨B, 12, none⟩ = some (.int .i64 c.ge)
  qu : wr.cell? ⟨B, 13, none⟩ = some (.int .i64 c.qu)
  of : ∀ j : Nat, j < 8 → wr.cell? ⟨B, 2 + j, none⟩ = some (.int .i64 (if j < k then c.bk l j else c.of j))
  fro : ∀ j : Nat, j < 14 → wr.frozen? ⟨B, j, none⟩ = false
  lt : B < wr.heap.size
theorem BX.below {w w' : World} {B : Nat} {c : Cf} {l : Int} {k : Nat} (h : BX w B c l k) (hb : Below w.heap.size w w') : BX w' B c l k :=
  ⟨keep_below h.lv hb, keep_below h.th hb, keep_below h.sl hb, keep_below h.li hb, keep_below h.ge hb, keep_below h.qu hb, fun j hj => keep_below (h.of j hj) hb, fun j hj => keep_frozen (h.fro j hj) h.lt hb, Nat.lt_of_lt_of_le h.lt hb.size⟩
theorem set_off {w : World} {B o o' : Nat} {u v : Value} (h : w.cell? ⟨B, o, none⟩ = some u) (hne : o' ≠ o) : (w.setCell ⟨B, o', none⟩ v).cell? ⟨B, o, none⟩ = some u :=
  (World.cell?_setCell_other _ _ _ _ (fun e => hne (by simpa using (congrArg Addr.off e)))).trans h
theorem BX.set {w : World} {B : Nat} {c : Cf} {l : Int} {k : Nat} (h : BX w B c l k) (hk : k < 8) {v : Value} (hv : v = .int .i64 (c.bk l k)) : BX (w.setCell ⟨B, 2 + k, none⟩ v) B c l (k + 1) := by
  refine ⟨set_off h.lv (by omega), set_off h.th (by omega), set_off h.sl (by omega), set_off h.li (by omega), set_off h.ge (by omega), set_off h.qu (by omega), fun j hj => ?_, fun j hj => by rw [World.frozen?_setCell]; exact h.fro j hj, by simpa using h.lt⟩
  by_cases hjk : j = k
  · subst hjk
    rw [if_pos (Nat.lt_succ_self j), ← hv]
    have := h.of j hj
    go_simp
  · rw [set_off (h.of j hj) (by omega)]
    by_cases h2 : j < k
    · rw [if_pos h2, if_pos (by omega)]
    · rw [if_neg h2, if_neg (by omega)]
theorem BX.keep {w : World} {B : Nat} {c : Cf} {l : Int} {k : Nat} (h : BX w B c l k) (hv : c.bk l k = c.of k) : BX w B c l (k + 1) :=
  ⟨h.lv, h.th, h.sl, h.li, h.ge, h.qu, fun j hj => by
    rw [h.of j hj]
    by_cases hjk : j = k
    · subst hjk
      rw [if_neg (Nat.lt_irrefl j), if_pos (Nat.lt_succ_self j), hv]
    · by_cases h2 : j < k
      · rw [if_pos h2, if_pos (by omega)]
      · rw [if_neg h2, if_neg (by omega)], h.fro, h.lt⟩
theorem BX.past {w : World} {B : Nat} {c : Cf} {l : Int} {k : Nat} (h : BX w B c l k) (hv : ∀ j : Nat, k ≤ j → j < 8 → c.bk l j = c.of j) : ∀ j : Nat, j < 8 → w.cell? ⟨B, 2 + j, none⟩ = some (.int .i64 (c.bk l j)) := fun j hj => by
  rw [h.of j hj]
  by_cases h2 : j < k
  · rw [if_pos h2]
  · rw [if_neg h2, hv j (by omega) hj]
/-- A block of fourteen cells that may be written. -/
structure RB (wr : World) (R : Nat) : Prop where
  c : ∀ j : Nat, j < 14 → ∃ u, wr.cell? ⟨R, j, none⟩ = some u
  f : ∀ j : Nat, j < 14 → wr.frozen? ⟨R, j, none⟩ = false
  lt : R < wr.heap.size
theorem RB.below {w w' : World} {R : Nat} (h : RB w R) (hb : Below w.heap.size w w') : RB w' R :=
  ⟨fun j hj => by obtain ⟨u, hu⟩ := h.c j hj; exact ⟨u, keep_below hu hb⟩, fun j hj => keep_frozen (h.f j hj) h.lt hb, Nat.lt_of_lt_of_le h.lt hb.size⟩
theorem RB.set {w : World} {R B o : Nat} (h : RB w R) (hne : B ≠ R) (v : Value) : RB (w.setCell ⟨B, o, none⟩ v) R :=
  ⟨fun j hj => by obtain ⟨u, hu⟩ := h.c j hj; exact ⟨u, keep_set hu hne⟩, fun j hj => by rw [World.frozen?_setCell]; exact h.f j hj, by simpa using h.lt⟩

set_option maxHeartbeats 4000000 in
set_option maxRecDepth 100000 in
theorem bare_any (c : Cf) (l : Int) (w : World) : Calls Try.prog 31 #[.agg #[.int .i64 c.lv, .int .i64 c.th, .int .i64 c.o0, .int .i64 c.o1, .int .i64 c.o2, .int .i64 c.o3, .int .i64 c.o4, .int .i64 c.o5, .int .i64 c.o6, .int .i64 c.o7, .int .i64 c.sl, .int .i64 c.li, .int .i64 c.ge, .int .i64 c.qu], .int .i64 l] w fun e w' => e = .returned (.agg #[.int .i64 c.lv, .int .i64 c.th, .int .i64 (c.bk l 0), .int .i64 (c.bk l 1), .int .i64 (c.bk l 2), .int .i64 (c.bk l 3), .int .i64 (c.bk l 4), .int .i64 (c.bk l 5), .int .i64 (c.bk l 6), .int .i64 (c.bk l 7), .int .i64 c.sl, .int .i64 c.li, .int .i64 c.ge, .int .i64 c.qu]) ∧ Below w.heap.size w w' := by
  have hmay := may_any c
  go_enter Try.func31, Try.ntmps31
  go_wp2_with fail
  obtain ⟨W0, hW0, bx, rb, kb, hz⟩ : ∃ W0, (w.alloc (.cells #[.int .i64 c.lv, .int .i64 c.th, .int .i64 c.o0, .int .i64 c.o1, .int .i64 c.o2, .int .i64 c.o3, .int .i64 c.o4, .int .i64 c.o5, .int .i64 c.o6, .int .i64 c.o7, .int .i64 c.sl, .int .i64 c.li, .int .i64 c.ge, .int .i64 c.qu] 45)).alloc (.cells #[.int .i64 0, .int .i64 0, .int .i64 0, .int .i64 0, .int .i64 0, .int .i64 0, .int .i64 0, .int .i64 0, .int .i64 0, .int .i64 0, .int .i64 0, .int .i64 0, .int .i64 0, .int .i64 0] 45) = W0 ∧ BX W0 w.heap.size c l 0 ∧ RB W0 (w.heap.size + 1) ∧ Below w.heap.size w W0 ∧ w.heap.size + 1 < W0.heap.size := by
    refine ⟨_, rfl, ⟨?_, ?_, ?_, ?_, ?_, ?_, fun j hj => ?_, fun j hj => ?_, ?_⟩, ⟨fun j hj => ⟨.int .i64 0, ?_⟩, fun j hj => ?_, ?_⟩, bnew (bnew (brefl w) _) _, by simp⟩
    all_goals first
      | (go_simp; done)
      | (rw [if_neg (Nat.not_lt_zero j)]; rcases (by omega : j = 0 ∨ j = 1 ∨ j = 2 ∨ j = 3 ∨ j = 4 ∨ j = 5 ∨ j = 6 ∨ j = 7) with rfl | rfl | rfl | rfl | rfl | rfl | rfl | rfl <;> (simp only [Cf.of]; go_simp))
      | (rcases (by omega : j = 0 ∨ j = 1 ∨ j = 2 ∨ j = 3 ∨ j = 4 ∨ j = 5 ∨ j = 6 ∨ j = 7 ∨ j = 8 ∨ j = 9 ∨ j = 10 ∨ j = 11 ∨ j = 12 ∨ j = 13) with rfl | rfl | rfl | rfl | rfl | rfl | rfl | rfl | rfl | rfl | rfl | rfl | rfl | rfl <;> go_simp)
      | (simp; omega)
  rw [hW0]
  clear hW0
  have hof0 := bx.of
  by_cases h : mayB c = true
  · have m : c.May := of_decide_eq_true h
    have l1 := m.l1
    have l2 := m.l2
    have t1 := m.t1
    have t2 := m.t2
    rw [h] at hmay
    have hBK : Hid (∀ k : Nat, (k : Int) < c.th → l < c.of k → c.bk l k = c.lv - 1) := fun k h1 h2 => if_pos ⟨h, h1, h2⟩
    have hBN : Hid (∀ k : Nat, ¬ ((k : Int) < c.th ∧ l < c.of k) → c.bk l k = c.of k) := fun k h1 => if_neg (fun q => h1 ⟨q.2.1, q.2.2⟩)
    have hload : ∀ w : World, Calls Try.prog 20 #[.agg #[.int .i64 c.lv, .int .i64 c.th, .int .i64 c.o0, .int .i64 c.o1, .int .i64 c.o2, .int .i64 c.o3, .int .i64 c.o4, .int .i64 c.o5, .int .i64 c.o6, .int .i64 c.o7, .int .i64 c.sl, .int .i64 c.li, .int .i64 c.ge, .int .i64 c.qu]] w fun e w' => e = .returned (.bool true) ∧ Below w.heap.size w w' := hmay
    have x0 := bx.lv
    have x1 := bx.th
    have x10 : W0.cell? ⟨w.heap.size, 10, none⟩ = some (.int .i64 c.sl) := bx.sl
    have x11 : W0.cell? ⟨w.heap.size, 11, none⟩ = some (.int .i64 c.li) := bx.li
    have x12 : W0.cell? ⟨w.heap.size, 12, none⟩ = some (.int .i64 c.ge) := bx.ge
    have x13 : W0.cell? ⟨w.heap.size, 13, none⟩ = some (.int .i64 c.qu) := bx.qu
    have x2 : W0.cell? ⟨w.heap.size, 2, none⟩ = some (.int .i64 c.o0) := by have := hof0 0 (by decide); simpa [Cf.of] using this
    have x3 : W0.cell? ⟨w.heap.size, 3, none⟩ = some (.int .i64 c.o1) := by have := hof0 1 (by decide); simpa [Cf.of] using this
    have x4 : W0.cell? ⟨w.heap.size, 4, none⟩ = some (.int .i64 c.o2) := by have := hof0 2 (by decide); simpa [Cf.of] using this
    have x5 : W0.cell? ⟨w.heap.size, 5, none⟩ = some (.int .i64 c.o3) := by have := hof0 3 (by decide); simpa [Cf.of] using this
    have x6 : W0.cell? ⟨w.heap.size, 6, none⟩ = some (.int .i64 c.o4) := by have := hof0 4 (by decide); simpa [Cf.of] using this
    have x7 : W0.cell? ⟨w.heap.size, 7, none⟩ = some (.int .i64 c.o5) := by have := hof0 5 (by decide); simpa [Cf.of] using this
    have x8 : W0.cell? ⟨w.heap.size, 8, none⟩ = some (.int .i64 c.o6) := by have := hof0 6 (by decide); simpa [Cf.of] using this
    have x9 : W0.cell? ⟨w.heap.size, 9, none⟩ = some (.int .i64 c.o7) := by have := hof0 7 (by decide); simpa [Cf.of] using this
    clear m h hof0 hmay
    go_wp2_with (go_at_call 20; refine (hload _).mono ?_; rintro e w1 ⟨rfl, hb1⟩; have y1 := keep_below x1 hb1)
    have bx1 := bx.below hb1
    have rb1 := rb.below hb1
    have kb1 := bnext kb hb1
    clear x0 x1 x2 x3 x4 x5 x6 x7 x8 x9 x10 x11 x12 x13 bx rb hb1 hload
    go_loopg [12] c.th.toNat (fun gk i wr => ∃ k : Nat, k + gk = c.th.toNat ∧ i = .int .i64 k ∧ BX wr w.heap.size c l k ∧ RB wr (w.heap.size + 1) ∧ Below w.heap.size w wr)
    case atStart => exact ⟨0, by omega, rfl, bx1, rb1, kb1⟩
    case round =>
      obtain ⟨k, hk, rfl, bx, rb, hbr⟩ := hrel
      by_cases hlt : k < c.th.toNat
      · have b0 : (0 : Int) ≤ (k : Int) := by omega
        have b1 : (k : Int) < c.th := by omega
        have b2 : (k : Int) < 8 := by omega
        have ck := bx.of k (by omega)
        rw [if_neg (Nat.lt_irrefl k)] at ck
        have fk := bx.fro (2 + k) (by omega)
        have x0 := bx.lv
        by_cases hv : l < c.of k
        · have hbk : Hid (c.bk l k = c.lv - 1) := hBK.out k b1 hv
          generalize hvv : c.of k = v at ck hv
          clear hvv
          go_wp2
          go_roundg (gk - 1)
          case measure => omega
          case rel => exact ⟨k + 1, by omega, by go_num, bx.set (by omega) (by rw [hbk.out]), rb.set (by omega) _, bset hbr (Nat.le_refl _) _⟩
        · have hbk : Hid (c.bk l k = c.of k) := hBN.out k (fun q => hv q.2)
          have bx2 := bx.keep hbk.out
          generalize hvv : c.of k = v at ck hv
          clear hvv hbk
          go_wp2
          go_roundg (gk - 1)
          case measure => omega
          case rel => exact ⟨k + 1, by omega, by go_num, bx2, rb, hbr⟩
      · have hge : ¬ ((k : Int) < c.th) := by omega
        have hofs := bx.past (fun j h1 h2 => hBN.out j (fun q => by omega))
        have x0 := bx.lv
        have x1 := bx.th
        have x10 := bx.sl
        have x11 := bx.li
        have x12 := bx.ge
        have x13 := bx.qu
        have x2 := hofs 0 (by decide)
        have x3 := hofs 1 (by decide)
        have x4 := hofs 2 (by decide)
        have x5 := hofs 3 (by decide)
        have x6 := hofs 4 (by decide)
        have x7 := hofs 5 (by decide)
        have x8 := hofs 6 (by decide)
        have x9 := hofs 7 (by decide)
        obtain ⟨u0, r0⟩ := rb.c 0 (by decide)
        obtain ⟨u1, r1⟩ := rb.c 1 (by decide)
        obtain ⟨u2, r2⟩ := rb.c 2 (by decide)
        obtain ⟨u3, r3⟩ := rb.c 3 (by decide)
        obtain ⟨u4, r4⟩ := rb.c 4 (by decide)
        obtain ⟨u5, r5⟩ := rb.c 5 (by decide)
        obtain ⟨u6, r6⟩ := rb.c 6 (by decide)
        obtain ⟨u7, r7⟩ := rb.c 7 (by decide)
        obtain ⟨u8, r8⟩ := rb.c 8 (by decide)
        obtain ⟨u9, r9⟩ := rb.c 9 (by decide)
        obtain ⟨u10, r10⟩ := rb.c 10 (by decide)
        obtain ⟨u11, r11⟩ := rb.c 11 (by decide)
        obtain ⟨u12, r12⟩ := rb.c 12 (by decide)
        obtain ⟨u13, r13⟩ := rb.c 13 (by decide)
        have f0 := rb.f 0 (by decide)
        have f1 := rb.f 1 (by decide)
        have f2 := rb.f 2 (by decide)
        have f3 := rb.f 3 (by decide)
        have f4 := rb.f 4 (by decide)
        have f5 := rb.f 5 (by decide)
        have f6 := rb.f 6 (by decide)
        have f7 := rb.f 7 (by decide)
        have f8 := rb.f 8 (by decide)
        have f9 := rb.f 9 (by decide)
        have f10 := rb.f 10 (by decide)
        have f11 := rb.f 11 (by decide)
        have f12 := rb.f 12 (by decide)
        have f13 := rb.f 13 (by decide)
        clear rb hofs bx hBK hBN
        go_wp2
        refine bodyPost_ret (v := .agg #[.int .i64 c.lv, .int .i64 c.th, .int .i64 (c.bk l 0), .int .i64 (c.bk l 1), .int .i64 (c.bk l 2), .int .i64 (c.bk l 3), .int .i64 (c.bk l 4), .int .i64 (c.bk l 5), .int .i64 (c.bk l 6), .int .i64 (c.bk l 7), .int .i64 c.sl, .int .i64 c.li, .int .i64 c.ge, .int .i64 c.qu]) (by simp [results, Try.results31, go_sem, r0, r1, r2, r3, r4, r5, r6, r7, r8, r9, r10, r11, r12, r13]) rfl ⟨rfl, ?_⟩
        iterate 14 refine bset ?_ (by dsimp only; omega) _
        exact hbr
  · have h' : mayB c = false := by simpa using h
    rw [h'] at hmay
    have hBN : ∀ k : Nat, c.bk l k = c.of k := fun k => if_neg (fun q => h q.1)
    have hload : ∀ w : World, Calls Try.prog 20 #[.agg #[.int .i64 c.lv, .int .i64 c.th, .int .i64 c.o0, .int .i64 c.o1, .int .i64 c.o2, .int .i64 c.o3, .int .i64 c.o4, .int .i64 c.o5, .int .i64 c.o6, .int .i64 c.o7, .int .i64 c.sl, .int .i64 c.li, .int .i64 c.ge, .int .i64 c.qu]] w fun e w' => e = .returned (.bool false) ∧ Below w.heap.size w w' := hmay
    have e0 := hBN 0
    have e1 := hBN 1
    have e2 := hBN 2
    have e3 := hBN 3
    have e4 := hBN 4
    have e5 := hBN 5
    have e6 := hBN 6
    have e7 := hBN 7
    simp only [Cf.of] at e0 e1 e2 e3 e4 e5 e6 e7
    have x0 : W0.cell? ⟨w.heap.size, 0, none⟩ = some (.int .i64 c.lv) := bx.lv
    have x1 : W0.cell? ⟨w.heap.size, 1, none⟩ = some (.int .i64 c.th) := bx.th
    have x10 : W0.cell? ⟨w.heap.size, 10, none⟩ = some (.int .i64 c.sl) := bx.sl
    have x11 : W0.cell? ⟨w.heap.size, 11, none⟩ = some (.int .i64 c.li) := bx.li
    have x12 : W0.cell? ⟨w.heap.size, 12, none⟩ = some (.int .i64 c.ge) := bx.ge
    have x13 : W0.cell? ⟨w.heap.size, 13, none⟩ = some (.int .i64 c.qu) := bx.qu
    have x2 : W0.cell? ⟨w.heap.size, 2, none⟩ = some (.int .i64 c.o0) := by have := hof0 0 (by decide); simpa [Cf.of] using this
    have x3 : W0.cell? ⟨w.heap.size, 3, none⟩ = some (.int .i64 c.o1) := by have := hof0 1 (by decide); simpa [Cf.of] using this
    have x4 : W0.cell? ⟨w.heap.size, 4, none⟩ = some (.int .i64 c.o2) := by have := hof0 2 (by decide); simpa [Cf.of] using this
    have x5 : W0.cell? ⟨w.heap.size, 5, none⟩ = some (.int .i64 c.o3) := by have := hof0 3 (by decide); simpa [Cf.of] using this
    have x6 : W0.cell? ⟨w.heap.size, 6, none⟩ = some (.int .i64 c.o4) := by have := hof0 4 (by decide); simpa [Cf.of] using this
    have x7 : W0.cell? ⟨w.heap.size, 7, none⟩ = some (.int .i64 c.o5) := by have := hof0 5 (by decide); simpa [Cf.of] using this
    have x8 : W0.cell? ⟨w.heap.size, 8, none⟩ = some (.int .i64 c.o6) := by have := hof0 6 (by decide); simpa [Cf.of] using this
    have x9 : W0.cell? ⟨w.heap.size, 9, none⟩ = some (.int .i64 c.o7) := by have := hof0 7 (by decide); simpa [Cf.of] using this
    have HE : Hid ((.agg #[.int .i64 c.lv, .int .i64 c.th, .int .i64 (c.bk l 0), .int .i64 (c.bk l 1), .int .i64 (c.bk l 2), .int .i64 (c.bk l 3), .int .i64 (c.bk l 4), .int .i64 (c.bk l 5), .int .i64 (c.bk l 6), .int .i64 (c.bk l 7), .int .i64 c.sl, .int .i64 c.li, .int .i64 c.ge, .int .i64 c.qu] : Value) = .agg #[.int .i64 c.lv, .int .i64 c.th, .int .i64 c.o0, .int .i64 c.o1, .int .i64 c.o2, .int .i64 c.o3, .int .i64 c.o4, .int .i64 c.o5, .int .i64 c.o6, .int .i64 c.o7, .int .i64 c.sl, .int .i64 c.li, .int .i64 c.ge, .int .i64 c.qu]) := by rw [Hid, e0, e1, e2, e3, e4, e5, e6, e7]
    clear h h' hmay hBN hof0 e0 e1 e2 e3 e4 e5 e6 e7
    go_wp2_with fail
    refine (hload _).mono ?_
    rintro e w1 ⟨rfl, hb1⟩
    have rb := rb.below hb1
    have hbw := bnext kb hb1
    have x0 := keep_below x0 hb1
    have x1 := keep_below x1 hb1
    have x2 := keep_below x2 hb1
    have x3 := keep_below x3 hb1
    have x4 := keep_below x4 hb1
    have x5 := keep_below x5 hb1
    have x6 := keep_below x6 hb1
    have x7 := keep_below x7 hb1
    have x8 := keep_below x8 hb1
    have x9 := keep_below x9 hb1
    have x10 := keep_below x10 hb1
    have x11 := keep_below x11 hb1
    have x12 := keep_below x12 hb1
    have x13 := keep_below x13 hb1
    obtain ⟨u0, r0⟩ := rb.c 0 (by decide)
    obtain ⟨u1, r1⟩ := rb.c 1 (by decide)
    obtain ⟨u2, r2⟩ := rb.c 2 (by decide)
    obtain ⟨u3, r3⟩ := rb.c 3 (by decide)
    obtain ⟨u4, r4⟩ := rb.c 4 (by decide)
    obtain ⟨u5, r5⟩ := rb.c 5 (by decide)
    obtain ⟨u6, r6⟩ := rb.c 6 (by decide)
    obtain ⟨u7, r7⟩ := rb.c 7 (by decide)
    obtain ⟨u8, r8⟩ := rb.c 8 (by decide)
    obtain ⟨u9, r9⟩ := rb.c 9 (by decide)
    obtain ⟨u10, r10⟩ := rb.c 10 (by decide)
    obtain ⟨u11, r11⟩ := rb.c 11 (by decide)
    obtain ⟨u12, r12⟩ := rb.c 12 (by decide)
    obtain ⟨u13, r13⟩ := rb.c 13 (by decide)
    have f0 := rb.f 0 (by decide)
    have f1 := rb.f 1 (by decide)
    have f2 := rb.f 2 (by decide)
    have f3 := rb.f 3 (by decide)
    have f4 := rb.f 4 (by decide)
    have f5 := rb.f 5 (by decide)
    have f6 := rb.f 6 (by decide)
    have f7 := rb.f 7 (by decide)
    have f8 := rb.f 8 (by decide)
    have f9 := rb.f 9 (by decide)
    have f10 := rb.f 10 (by decide)
    have f11 := rb.f 11 (by decide)
    have f12 := rb.f 12 (by decide)
    have f13 := rb.f 13 (by decide)
    clear rb bx hload
    go_wp2
    refine bodyPost_ret (v := .agg #[.int .i64 c.lv, .int .i64 c.th, .int .i64 c.o0, .int .i64 c.o1, .int .i64 c.o2, .int .i64 c.o3, .int .i64 c.o4, .int .i64 c.o5, .int .i64 c.o6, .int .i64 c.o7, .int .i64 c.sl, .int .i64 c.li, .int .i64 c.ge, .int .i64 c.qu]) (by simp [results, Try.results31, go_sem, r0, r1, r2, r3, r4, r5, r6, r7, r8, r9, r10, r11, r12, r13]) rfl ⟨by rw [HE.out], ?_⟩
    iterate 14 refine bset ?_ (by dsimp only; omega) _
    exact hbw

set_option maxHeartbeats 4000000 in
set_option maxRecDepth 100000 in
theorem rbare_any (c : Cf) (l : Int) (w : World) : Calls Try.prog 32 #[.agg #[.int .i64 c.lv, .int .i64 c.th, .int .i64 c.o0, .int .i64 c.o1, .int .i64 c.o2, .int .i64 c.o3, .int .i64 c.o4, .int .i64 c.o5, .int .i64 c.o6, .int .i64 c.o7, .int .i64 c.sl, .int .i64 c.li, .int .i64 c.ge, .int .i64 c.qu], .int .i64 l] w fun e w' => e = .returned (.agg #[.int .i64 c.lv, .int .i64 c.th, .int .i64 (c.bk l 0), .int .i64 (c.bk l 1), .int .i64 (c.bk l 2), .int .i64 (c.bk l 3), .int .i64 (c.bk l 4), .int .i64 (c.bk l 5), .int .i64 (c.bk l 6), .int .i64 (c.bk l 7), .int .i64 c.sl, .int .i64 c.li, .int .i64 c.ge, .int .i64 c.qu]) ∧ Below w.heap.size w w' := by
  go_enter Try.func32, Try.ntmps32
  go_wp2_with fail
  obtain ⟨W0, hW0, bx, rb, kb, ry, hz⟩ : ∃ W0, ((w.alloc (.cells #[.int .i64 c.lv, .int .i64 c.th, .int .i64 c.o0, .int .i64 c.o1, .int .i64 c.o2, .int .i64 c.o3, .int .i64 c.o4, .int .i64 c.o5, .int .i64 c.o6, .int .i64 c.o7, .int .i64 c.sl, .int .i64 c.li, .int .i64 c.ge, .int .i64 c.qu] 45)).alloc (.cells #[.int .i64 0, .int .i64 0, .int .i64 0, .int .i64 0, .int .i64 0, .int .i64 0, .int .i64 0, .int .i64 0, .int .i64 0, .int .i64 0, .int .i64 0, .int .i64 0, .int .i64 0, .int .i64 0] 45)).alloc (.cells #[.int .i64 c.lv, .int .i64 c.th, .int .i64 c.o0, .int .i64 c.o1, .int .i64 c.o2, .int .i64 c.o3, .int .i64 c.o4, .int .i64 c.o5, .int .i64 c.o6, .int .i64 c.o7, .int .i64 c.sl, .int .i64 c.li, .int .i64 c.ge, .int .i64 c.qu] 45) = W0 ∧ BX W0 w.heap.size c l 0 ∧ RB W0 (w.heap.size + 1) ∧ Below w.heap.size w W0 ∧ BX W0 (w.heap.size + 1 + 1) c l 0 ∧ w.heap.size + 1 < W0.heap.size := by
    refine ⟨_, rfl, ⟨?_, ?_, ?_, ?_, ?_, ?_, fun j hj => ?_, fun j hj => ?_, ?_⟩, ⟨fun j hj => ⟨.int .i64 0, ?_⟩, fun j hj => ?_, ?_⟩, bnew (bnew (bnew (brefl w) _) _) _, ⟨?_, ?_, ?_, ?_, ?_, ?_, fun j hj => ?_, fun j hj => ?_, ?_⟩, by simp⟩
    all_goals first
      | (go_simp; done)
      | (rw [if_neg (Nat.not_lt_zero j)]; rcases (by omega : j = 0 ∨ j = 1 ∨ j = 2 ∨ j = 3 ∨ j = 4 ∨ j = 5 ∨ j = 6 ∨ j = 7) with rfl | rfl | rfl | rfl | rfl | rfl | rfl | rfl <;> (simp only [Cf.of]; go_simp))
      | (rcases (by omega : j = 0 ∨ j = 1 ∨ j = 2 ∨ j = 3 ∨ j = 4 ∨ j = 5 ∨ j = 6 ∨ j = 7 ∨ j = 8 ∨ j = 9 ∨ j = 10 ∨ j = 11 ∨ j = 12 ∨ j = 13) with rfl | rfl | rfl | rfl | rfl | rfl | rfl | rfl | rfl | rfl | rfl | rfl | rfl | rfl <;> go_simp)
      | (simp; omega)
  rw [hW0]
  clear hW0
  go_loopg [6] 8 (fun gk i wr => ∃ k : Nat, k + gk = 8 ∧ i = .int .i64 k ∧ BX wr w.heap.size c l 0 ∧ BX wr (w.heap.size + 1 + 1) c l k ∧ RB wr (w.heap.size + 1) ∧ Below w.heap.size w wr)
  case atStart => exact ⟨0, by omega, rfl, bx, ry, rb, kb⟩
  case round =>
    obtain ⟨k, hk, rfl, bx, ry, rb, hbr⟩ := hrel
    by_cases hlt : k < 8
    · have b0 : (0 : Int) ≤ (k : Int) := by omega
      have b2 : (k : Int) < 8 := by omega
      have hlv := rlevel_any c (k : Int)
      have hofs := bx.of
      have x0 : wr.cell? ⟨w.heap.size, 0, none⟩ = some (.int .i64 c.lv) := bx.lv
      have x1 : wr.cell? ⟨w.heap.size, 1, none⟩ = some (.int .i64 c.th) := bx.th
      have x10 : wr.cell? ⟨w.heap.size, 10, none⟩ = some (.int .i64 c.sl) := bx.sl
      have x11 : wr.cell? ⟨w.heap.size, 11, none⟩ = some (.int .i64 c.li) := bx.li
      have x12 : wr.cell? ⟨w.heap.size, 12, none⟩ = some (.int .i64 c.ge) := bx.ge
      have x13 : wr.cell? ⟨w.heap.size, 13, none⟩ = some (.int .i64 c.qu) := bx.qu
      have x2 : wr.cell? ⟨w.heap.size, 2, none⟩ = some (.int .i64 c.o0) := by have := hofs 0 (by decide); simpa [Cf.of] using this
      have x3 : wr.cell? ⟨w.heap.size, 3, none⟩ = some (.int .i64 c.o1) := by have := hofs 1 (by decide); simpa [Cf.of] using this
      have x4 : wr.cell? ⟨w.heap.size, 4, none⟩ = some (.int .i64 c.o2) := by have := hofs 2 (by decide); simpa [Cf.of] using this
      have x5 : wr.cell? ⟨w.heap.size, 5, none⟩ = some (.int .i64 c.o3) := by have := hofs 3 (by decide); simpa [Cf.of] using this
      have x6 : wr.cell? ⟨w.heap.size, 6, none⟩ = some (.int .i64 c.o4) := by have := hofs 4 (by decide); simpa [Cf.of] using this
      have x7 : wr.cell? ⟨w.heap.size, 7, none⟩ = some (.int .i64 c.o5) := by have := hofs 5 (by decide); simpa [Cf.of] using this
      have x8 : wr.cell? ⟨w.heap.size, 8, none⟩ = some (.int .i64 c.o6) := by have := hofs 6 (by decide); simpa [Cf.of] using this
      have x9 : wr.cell? ⟨w.heap.size, 9, none⟩ = some (.int .i64 c.o7) := by have := hofs 7 (by decide); simpa [Cf.of] using this
      have ck := ry.of k hlt
      rw [if_neg (Nat.lt_irrefl k)] at ck
      have fk := ry.fro (2 + k) (by omega)
      have hlt3 := ry.lt
      have hYN : Hid (¬ (0 ≤ levelOf c k ∧ l < levelOf c k) → c.bk l k = c.of k) := fun h => by
        refine if_neg fun q => h ?_
        have m : c.May := of_decide_eq_true q.1
        have hr := m.r k hlt
        have : levelOf c k = c.of k := by rw [levelOf, if_pos ⟨q.1, by omega, q.2.1⟩, Int.toNat_natCast]
        omega
      have hYY : Hid (0 ≤ levelOf c k ∧ l < levelOf c k → c.bk l k = c.lv - 1 ∧ 1 ≤ c.lv ∧ c.lv ≤ 4) := fun h => by
        by_cases q : mayB c = true ∧ 0 ≤ (k : Int) ∧ (k : Int) < c.th
        · have hl : levelOf c k = c.of k := by rw [levelOf, if_pos q, Int.toNat_natCast]
          have m : c.May := of_decide_eq_true q.1
          exact ⟨if_pos ⟨q.1, q.2.2, by omega⟩, m.l1, m.l2⟩
        · have hl : levelOf c k = -1 := if_neg q
          omega
      clear hofs
      generalize levelOf c k = v at *
      by_cases g1 : 0 ≤ v
      · by_cases g2 : l < v
        · obtain ⟨y1, y2, y3⟩ := hYY.out ⟨g1, g2⟩
          have hbk : Hid (c.bk l k = c.lv - 1) := y1
          clear y1 hYY hYN
          generalize c.of k = vo at ck
          go_wp2_with (go_at_call 23; refine (hlv _).mono ?_; rintro e w1 ⟨rfl, hb1⟩; have z0 := keep_below x0 hb1; have zk := keep_below ck hb1; have zf := keep_frozen fk hlt3 hb1)
          go_roundg (gk - 1)
          case measure => omega
          case rel =>
            have hbw := bnext hbr hb1
            have bx2 := bx.below hb1
            refine ⟨k + 1, by omega, by go_num, ⟨keep_set bx2.lv (by dsimp only; omega), keep_set bx2.th (by dsimp only; omega), keep_set bx2.sl (by dsimp only; omega), keep_set bx2.li (by dsimp only; omega), keep_set bx2.ge (by dsimp only; omega), keep_set bx2.qu (by dsimp only; omega), fun j hj => keep_set (bx2.of j hj) (by dsimp only; omega), fun j hj => by rw [World.frozen?_setCell]; exact bx2.fro j hj, by simpa using bx2.lt⟩, (ry.below hb1).set hlt (by rw [hbk.out]), (rb.below hb1).set (by omega) _, bset hbw (by dsimp only; omega) _⟩
        · have hbk := hYN.out (fun q => g2 q.2)
          have ry2 := ry.keep hbk
          have g3 : decide (l < v) = false := decide_eq_false g2
          clear hYY hYN hbk ck fk
          go_wp2_with (go_at_call 23; refine (hlv _).mono ?_; rintro e w1 ⟨rfl, hb1⟩)
          go_roundg (gk - 1)
          case measure => omega
          case rel => exact ⟨k + 1, by omega, by go_num, bx.below hb1, ry2.below hb1, rb.below hb1, bnext hbr hb1⟩
      · have hbk := hYN.out (fun q => g1 q.1)
        have ry2 := ry.keep hbk
        have g3 : decide (0 ≤ v) = false := decide_eq_false g1
        clear hYY hYN hbk ck fk
        go_wp2_with (go_at_call 23; refine (hlv _).mono ?_; rintro e w1 ⟨rfl, hb1⟩)
        go_roundg (gk - 1)
        case measure => omega
        case rel => exact ⟨k + 1, by omega, by go_num, bx.below hb1, ry2.below hb1, rb.below hb1, bnext hbr hb1⟩
    · obtain rfl : k = 8 := by omega
      have hofs := ry.past (fun j h1 h2 => by omega)
      have x0 := ry.lv
      have x1 := ry.th
      have x10 := ry.sl
      have x11 := ry.li
      have x12 := ry.ge
      have x13 := ry.qu
      have x2 := hofs 0 (by decide)
      have x3 := hofs 1 (by decide)
      have x4 := hofs 2 (by decide)
      have x5 := hofs 3 (by decide)
      have x6 := hofs 4 (by decide)
      have x7 := hofs 5 (by decide)
      have x8 := hofs 6 (by decide)
      have x9 := hofs 7 (by decide)
      obtain ⟨u0, r0⟩ := rb.c 0 (by decide)
      obtain ⟨u1, r1⟩ := rb.c 1 (by decide)
      obtain ⟨u2, r2⟩ := rb.c 2 (by decide)
      obtain ⟨u3, r3⟩ := rb.c 3 (by decide)
      obtain ⟨u4, r4⟩ := rb.c 4 (by decide)
      obtain ⟨u5, r5⟩ := rb.c 5 (by decide)
      obtain ⟨u6, r6⟩ := rb.c 6 (by decide)
      obtain ⟨u7, r7⟩ := rb.c 7 (by decide)
      obtain ⟨u8, r8⟩ := rb.c 8 (by decide)
      obtain ⟨u9, r9⟩ := rb.c 9 (by decide)
      obtain ⟨u10, r10⟩ := rb.c 10 (by decide)
      obtain ⟨u11, r11⟩ := rb.c 11 (by decide)
      obtain ⟨u12, r12⟩ := rb.c 12 (by decide)
      obtain ⟨u13, r13⟩ := rb.c 13 (by decide)
      have f0 := rb.f 0 (by decide)
      have f1 := rb.f 1 (by decide)
      have f2 := rb.f 2 (by decide)
      have f3 := rb.f 3 (by decide)
      have f4 := rb.f 4 (by decide)
      have f5 := rb.f 5 (by decide)
      have f6 := rb.f 6 (by decide)
      have f7 := rb.f 7 (by decide)
      have f8 := rb.f 8 (by decide)
      have f9 := rb.f 9 (by decide)
      have f10 := rb.f 10 (by decide)
      have f11 := rb.f 11 (by decide)
      have f12 := rb.f 12 (by decide)
      have f13 := rb.f 13 (by decide)
      clear rb hofs ry bx
      go_wp2
      refine bodyPost_ret (v := .agg #[.int .i64 c.lv, .int .i64 c.th, .int .i64 (c.bk l 0), .int .i64 (c.bk l 1), .int .i64 (c.bk l 2), .int .i64 (c.bk l 3), .int .i64 (c.bk l 4), .int .i64 (c.bk l 5), .int .i64 (c.bk l 6), .int .i64 (c.bk l 7), .int .i64 c.sl, .int .i64 c.li, .int .i64 c.ge, .int .i64 c.qu]) (by simp [results, Try.results32, go_sem, r0, r1, r2, r3, r4, r5, r6, r7, r8, r9, r10, r11, r12, r13]) rfl ⟨rfl, ?_⟩
      iterate 14 refine bset ?_ (by dsimp only; omega) _
      exact hbr
end Go.Proofs.Ytpnhpiniflcciaa
