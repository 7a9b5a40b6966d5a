/- The law WardenPlays. -/
import Derived.Test.YtlnnnaefmgikpaaWarT
namespace Go.Proofs.Ytlnnnaefmgikpaa
set_option linter.unusedVariables false
set_option linter.unusedSimpArgs false
open Go.RowKit

def PB (B p bh bg q : Nat) : Nat → Prop := fun x => B ≤ x ∧ x ≠ p ∧ x ≠ bh ∧ x ≠ bg ∧ x ≠ q
theorem fd_new {S : Nat → Prop} {a w : World} {q o : Nat} {v : Value} (h : Keeps S a w) (hq : a.heap.size ≤ q) : Keeps S a (w.setCell ⟨q, o, none⟩ v) := h.setCell (p := ⟨q, o, none⟩) (fun hlt => absurd hlt (by show ¬ q < _; omega)) v
theorem keeps_fdp {w w' : World} {p bh bg : Nat} (h : Keeps (fun x => x = p ∨ x = bh ∨ x = bg) w w') : Keeps (FD p bh bg p) w w' := keeps_fd h
set_option maxHeartbeats 4000000 in
set_option maxRecDepth 100000 in
theorem plays_out0 {w : World} {A : Option Addr} {n c : Nat} (a b lk : Int) (h : a < 1) :
    Calls Try.prog 4 #[.agg #[.int .i64 a, .int .i64 b], .slice A n c, .int .u64 lk] w fun e w' => e = .returned (.bool true) ∧ Below w.heap.size w w' := by
  have hnew := fun W => new_out a b W (by omega)
  have t0 : decide (a < 1) = true := decide_eq_true (by omega)
  clear h
  go_enter Try.func4, Try.ntmps4
  have tok1 : True := trivial
  have tok2 : True := trivial
  go_wp2_with (first | (have _t := tok1; go_at_call 7; refine (hnew _).mono ?_; rintro e w1 ⟨rfl, rfl⟩; clear tok1 _t) | (have _t := tok2; go_at_call 6; refine (lives07 _).mono ?_; rintro e w1 ⟨rfl, hb1⟩; clear tok2 _t))
  go_ret
  exact ⟨rfl, bnext (bnew (brefl w) _) hb1⟩
set_option maxHeartbeats 4000000 in
set_option maxRecDepth 100000 in
theorem plays_out1 {w : World} {A : Option Addr} {n c : Nat} (a b lk : Int) (h : 1 ≤ a ∧ 4 < a) :
    Calls Try.prog 4 #[.agg #[.int .i64 a, .int .i64 b], .slice A n c, .int .u64 lk] w fun e w' => e = .returned (.bool true) ∧ Below w.heap.size w w' := by
  have hnew := fun W => new_out a b W (by omega)
  have t0 : decide (a < 1) = false := decide_eq_false (by omega)
  have t1 : decide (4 < a) = true := decide_eq_true (by omega)
  clear h
  go_enter Try.func4, Try.ntmps4
  have tok1 : True := trivial
  have tok2 : True := trivial
  go_wp2_with (first | (have _t := tok1; go_at_call 7; refine (hnew _).mono ?_; rintro e w1 ⟨rfl, rfl⟩; clear tok1 _t) | (have _t := tok2; go_at_call 6; refine (lives07 _).mono ?_; rintro e w1 ⟨rfl, hb1⟩; clear tok2 _t))
  go_ret
  exact ⟨rfl, bnext (bnew (brefl w) _) hb1⟩
set_option maxHeartbeats 4000000 in
set_option maxRecDepth 100000 in
theorem plays_out2 {w : World} {A : Option Addr} {n c : Nat} (a b lk : Int) (h : 1 ≤ a ∧ a ≤ 4 ∧ b < 1) :
    Calls Try.prog 4 #[.agg #[.int .i64 a, .int .i64 b], .slice A n c, .int .u64 lk] w fun e w' => e = .returned (.bool true) ∧ Below w.heap.size w w' := by
  have hnew := fun W => new_out a b W (by omega)
  have t0 : decide (a < 1) = false := decide_eq_false (by omega)
  have t1 : decide (4 < a) = false := decide_eq_false (by omega)
  have t2 : decide (b < 1) = true := decide_eq_true (by omega)
  clear h
  go_enter Try.func4, Try.ntmps4
  have tok1 : True := trivial
  have tok2 : True := trivial
  go_wp2_with (first | (have _t := tok1; go_at_call 7; refine (hnew _).mono ?_; rintro e w1 ⟨rfl, rfl⟩; clear tok1 _t) | (have _t := tok2; go_at_call 6; refine (lives07 _).mono ?_; rintro e w1 ⟨rfl, hb1⟩; clear tok2 _t))
  go_ret
  exact ⟨rfl, bnext (bnew (brefl w) _) hb1⟩
set_option maxHeartbeats 4000000 in
set_option maxRecDepth 100000 in
theorem plays_out3 {w : World} {A : Option Addr} {n c : Nat} (a b lk : Int) (h : 1 ≤ a ∧ a ≤ 4 ∧ 1 ≤ b ∧ 60 < b) :
    Calls Try.prog 4 #[.agg #[.int .i64 a, .int .i64 b], .slice A n c, .int .u64 lk] w fun e w' => e = .returned (.bool true) ∧ Below w.heap.size w w' := by
  have hnew := fun W => new_out a b W (by omega)
  have t0 : decide (a < 1) = false := decide_eq_false (by omega)
  have t1 : decide (4 < a) = false := decide_eq_false (by omega)
  have t2 : decide (b < 1) = false := decide_eq_false (by omega)
  have t3 : decide (60 < b) = true := decide_eq_true (by omega)
  clear h
  go_enter Try.func4, Try.ntmps4
  have tok1 : True := trivial
  have tok2 : True := trivial
  go_wp2_with (first | (have _t := tok1; go_at_call 7; refine (hnew _).mono ?_; rintro e w1 ⟨rfl, rfl⟩; clear tok1 _t) | (have _t := tok2; go_at_call 6; refine (lives07 _).mono ?_; rintro e w1 ⟨rfl, hb1⟩; clear tok2 _t))
  go_ret
  exact ⟨rfl, bnext (bnew (brefl w) _) hb1⟩
set_option maxHeartbeats 4000000 in
set_option maxRecDepth 100000 in
theorem plays_long {w : World} {A : Option Addr} {n c L M : Nat} (lk : Int) (l1 : 1 ≤ L) (l4 : L ≤ 4) (m1 : 1 ≤ M) (m60 : M ≤ 60) (hn : 60 < n) :
    Calls Try.prog 4 #[.agg #[.int .i64 L, .int .i64 M], .slice A n c, .int .u64 lk] w fun e w' => e = .returned (.bool true) ∧ Below w.heap.size w w' := by
  have hnew := fun W => new_any (L : Int) (M : Int) W (by omega) (by omega) (by omega) (by omega)
  have t0 : decide ((L : Int) < 1) = false := decide_eq_false (by omega)
  have t1 : decide (4 < (L : Int)) = false := decide_eq_false (by omega)
  have t2 : decide ((M : Int) < 1) = false := decide_eq_false (by omega)
  have t3 : decide (60 < (M : Int)) = false := decide_eq_false (by omega)
  go_enter Try.func4, Try.ntmps4
  go_upto_region 1 with (fail)
  obtain ⟨q0, hq0⟩ : ∃ q, q = w.heap.size := ⟨_, rfl⟩
  obtain ⟨W0, hW0, B0, kb0⟩ : ∃ W0, w.alloc (.cells #[.int .i64 L, .int .i64 M] 25) = W0 ∧ Blk W0 q0 25 #[.int .i64 L, .int .i64 M] ∧ Below w.heap.size w W0 := ⟨_, rfl, by rw [hq0]; exact Blk.new _ _ _, bnew (brefl w) _⟩
  rw [hW0]
  rw [← hq0]
  have a0 : W0.cell? ⟨q0, 0, none⟩ = some (.int .i64 L) := B0.cell 0
  have a1 : W0.cell? ⟨q0, 1, none⟩ = some (.int .i64 M) := B0.cell 1
  have az := B0.lt

  clear hW0 hq0 B0
  have tok1 : True := trivial
  go_upto_region 4 with (have _t := tok1; go_at_call 7; refine (hnew _).mono ?_; rintro e w1 ⟨p, bh, bg, rfl, p1, p2, p3, h0, hb1⟩; have a0' := keep_below a0 hb1; have a1' := keep_below a1 hb1; have az' := block_lt_of_cell a0'; clear tok1 _t)
  go_wp2_with (go_at_call 6; refine (lives07 _).mono ?_; rintro e w2 ⟨rfl, hb2⟩)
  go_ret
  exact ⟨rfl, bnext kb0 (bnext hb1 hb2)⟩

set_option maxHeartbeats 4000000 in
set_option maxRecDepth 100000 in
theorem plays_in {w : World} {A : Option Addr} {n c L M : Nat} {l : List OpV} (hl : Sl opc w A n c l) (hwf : ∀ x ∈ l, wfI x.a ∧ wfI x.b) (lk : Int) (hu : U64 lk) (l1 : 1 ≤ L) (l4 : L ≤ 4) (m1 : 1 ≤ M) (m60 : M ≤ 60) (hn : n ≤ 60) :
    Calls Try.prog 4 #[.agg #[.int .i64 L, .int .i64 M], .slice A n c, .int .u64 lk] w fun e w' => e = .returned (.bool true) ∧ Below w.heap.size w w' := by
  have hge : ¬ ((60 : Int) < (n : Int)) := by omega
  have hlen := Lib.hid hl.len
  have hnew := fun W => new_any (L : Int) (M : Int) W (by omega) (by omega) (by omega) (by omega)
  have t0 : decide ((L : Int) < 1) = false := decide_eq_false (by omega)
  have t1 : decide (4 < (L : Int)) = false := decide_eq_false (by omega)
  have t2 : decide ((M : Int) < 1) = false := decide_eq_false (by omega)
  have t3 : decide (60 < (M : Int)) = false := decide_eq_false (by omega)
  go_enter Try.func4, Try.ntmps4
  go_upto_region 1 with (fail)
  obtain ⟨q0, hq0⟩ : ∃ q, q = w.heap.size := ⟨_, rfl⟩
  obtain ⟨W0, hW0, B0, kb0⟩ : ∃ W0, w.alloc (.cells #[.int .i64 L, .int .i64 M] 25) = W0 ∧ Blk W0 q0 25 #[.int .i64 L, .int .i64 M] ∧ Below w.heap.size w W0 := ⟨_, rfl, by rw [hq0]; exact Blk.new _ _ _, bnew (brefl w) _⟩
  rw [hW0]
  rw [← hq0]
  have a0 : W0.cell? ⟨q0, 0, none⟩ = some (.int .i64 L) := B0.cell 0
  have a1 : W0.cell? ⟨q0, 1, none⟩ = some (.int .i64 M) := B0.cell 1
  have az := B0.lt
  have hl2 := hl.below kb0
  clear hW0 hq0 B0
  have tok1 : True := trivial
  go_upto_region 4 with (have _t := tok1; go_at_call 7; refine (hnew _).mono ?_; rintro e w1 ⟨p, bh, bg, rfl, p1, p2, p3, h0, hb1⟩; have a0' := keep_below a0 hb1; have a1' := keep_below a1 hb1; have az' := block_lt_of_cell a0'; clear tok1 _t)
  have hl1 := hl2.below hb1
  have hrn := rnew_any l1 l4 m1 m60 w1
  have tok2 : True := trivial
  go_upto_region 7 with (have _t := tok2; go_at_call 13; refine hrn.mono ?_; rintro e w2 ⟨A2, c2, rfl, r2, hb2⟩; clear tok2 _t)
  clear hrn
  obtain ⟨q8, hq8⟩ : ∃ q, q = w2.heap.size := ⟨_, rfl⟩
  have nz := h0.lts
  have nz2 := hb2.size
  have nz1 := hb1.size
  obtain ⟨W5, hW5, C8, h5, r5, kb5⟩ : ∃ W5, (w2.alloc (.cells #[.slice A2 L c2, .int .i64 0] 38)) = W5 ∧ Blk W5 q8 38 #[.slice A2 L c2, .int .i64 (st0 L M).slips] ∧ WB W5 p bh bg 0 (st0 L M) ∧ RP W5 A2 c2 L M (st0 L M) (PB W0.heap.size p bh bg q8) ∧ Below W0.heap.size W0 W5 := by
    have KZ : Keeps (fun _ => False) w2 (w2.alloc (.cells #[.slice A2 L c2, .int .i64 0] 38)) := (Keeps.refl _ w2).alloc _
    refine ⟨_, rfl, ?_, (h0.below hb2).keeps KZ id id id, (r2.lt.keeps KZ (fun _ _ q => q)).mono (fun b hb => ?_), KZ.below (bnext hb1 hb2) (by omega) (fun x hx _ => hx.elim)⟩
    · rw [hq8]
      exact Blk.new w2 38 #[.slice A2 L c2, .int .i64 0]
    · have h1 := hb.1
      have h2 := hb.2
      unfold PB
      omega
  rw [hW5]
  rw [← hq8]
  have nq8 : w1.heap.size ≤ q8 := by omega
  clear hW5 hq8 r2 hb2 h0
  obtain ⟨W6, rfl⟩ : ∃ W6, W6 = W5 := ⟨_, rfl⟩
  have hl5 := hl2.below kb5
  have HA : ∀ ad, A = some ad → 0 < n → ad.block < W0.heap.size := fun ad e h => hl2.rd.lt (by intro q; have := congrArg List.length q; rw [flat_len opc_len] at this; have := hl2.len; simp at *; omega) ad e
  go_wp2_with fail
  go_loopg [9] n (fun gk i wr => ∃ (k : Nat) (s : St) (A2 : Option Addr) (c2 : Nat), k + gk = n ∧ i = .int .i64 k ∧ WB wr p bh bg k s ∧ RP wr A2 c2 L M s (PB W0.heap.size p bh bg q8) ∧ Blk wr q8 38 #[.slice A2 L c2, .int .i64 s.slips] ∧ Below W0.heap.size W0 wr)
  case atStart => exact ⟨0, _, A2, c2, by omega, rfl, h5, r5, C8, kb5⟩
  case round =>
    clear h5 r5 C8 kb5 hl5 hb1 hl1
    obtain ⟨k, s, A1, c1, hk, rfl, h, hp, C8, kb⟩ := hrel
    by_cases hlt : k < n
    · obtain ⟨bl, ol, rfl, _, hc⟩ := hl2.base opc_len (by decide) (by omega)
      obtain ⟨e, he⟩ : ∃ e, l[k]? = some e := ⟨l[k]'(by have := hlen.out; omega), List.getElem?_eq_getElem (i := k) _⟩
      have c0 : W0.cell? ⟨bl, ol + k * 3, none⟩ = some (.bool e.tk) := by have h0 := hc k e 0 _ he rfl; simpa using h0
      have c1' : W0.cell? ⟨bl, ol + k * 3 + 1, none⟩ = some (.int .i64 e.a) := by have h0 := hc k e 1 _ he rfl; simpa [Nat.add_assoc] using h0
      have c2' : W0.cell? ⟨bl, ol + k * 3 + 2, none⟩ = some (.int .i64 e.b) := by have h0 := hc k e 2 _ he rfl; simpa [Nat.add_assoc] using h0
      have HE := Lib.hid (hwf e (List.mem_of_getElem? he))
      have hbl : bl < W0.heap.size := block_lt_of_cell c0
      have x0 := keep_below c0 kb
      have x1 := keep_below c1' kb
      have x2 := keep_below c2' kb
      have d0 : wr.cell? ⟨q8, 0, none⟩ = some (.slice A1 L c1) := C8.cell 0
      have d1 : wr.cell? ⟨q8, 1, none⟩ = some (.int .i64 s.slips) := C8.cell 1
      have b0 : (0 : Int) ≤ (k : Int) := by omega
      have b1 : (k : Int) < (n : Int) := by omega
      have zp := h.lts
      have z8 := C8.lt
      have n1 : bl ≠ p := by omega
      have n2 : bl ≠ bh := by omega
      have n3 : bl ≠ bg := by omega
      have n4 : q8 ≠ p := by omega
      have n5 : q8 ≠ bh := by omega
      have n6 : q8 ≠ bg := by omega
      have hsb := h.sb
      have hgb := h.gb
      have hD := fun W' (hW : Below wr.heap.size wr W') => do_any (h.below hW) ((hp.lt.below hW).mono (Q := fun b => PB W0.heap.size p bh bg q8 b ∧ b < wr.heap.size) (fun _ q => q)) (fun b hb => ⟨hb.1.2.1, hb.1.2.2.1, hb.1.2.2.2.1⟩) (by omega) (by omega) (fun a b => by have := hgb a b; omega) e
      have hPB : ∀ b, ((PB W0.heap.size p bh bg q8 b ∧ b < wr.heap.size) ∨ wr.heap.size ≤ b) → PB W0.heap.size p bh bg q8 b := fun b hb => by
        have := kb.size
        rcases hb with hb | hb
        · exact hb.1
        · unfold PB
          omega
      have hPC : ∀ b, ((PB W0.heap.size p bh bg q8 b ∧ b < wr.heap.size) ∨ wr.heap.size + 1 ≤ b) → PB W0.heap.size p bh bg q8 b ∧ b ≠ wr.heap.size := fun b hb => ⟨hPB b (hb.imp id (fun q => by omega)), by rcases hb with hb | hb <;> omega⟩
      have HD := Lib.hid hD
      have HPB := Lib.hid hPB
      have HPC := Lib.hid hPC
      have HEQ := Lib.hid he
      clear hc he c0 c1' c2' hgb hsb hD hPB hPC
      go_upto_region 10 with (fail)
      go_cut [10, 11] (fun s10 s11 w' => ∃ qz A2 c2, s10 = .pointer (some ⟨qz, 0, none⟩) ∧ s11 = .bool true ∧ WB w' p bh bg (k + 1) (s.go e) ∧ RP w' A2 c2 L M (s.go e) (PB W0.heap.size p bh bg q8) ∧ Blk w' qz 38 #[.slice A2 L c2, .int .i64 (s.go e).slips] ∧ Blk w' q8 38 #[.slice A1 L c1, .int .i64 s.slips] ∧ q8 ≠ qz ∧ Below W0.heap.size W0 w')
      case first =>
        have hD := HD.out
        have hPB := HPB.out
        have hPC := HPC.out
        have hX := @ExtD.cell p bh bg p wr
        have hzz0 := block_lt_of_cell d0
        have hzz1 := block_lt_of_cell x0
        refine wp_region_noPanic ?_
        refine wp_region_tree (fun w' => ∃ x : ExtD p bh bg p wr, w' = x.w) (PT.two [0, 1, 2, 3, 4, 5] 6 (PT.one [7, 8, 9] 10 (PT.one [] 11 (PT.fin [12]))) 10 (PT.one [] 6 (PT.one [7, 8, 9] 11 (PT.fin [12])))) (by kernel_rfl) (by kernel_rfl) (by kernel_rfl) (fun _ _ _ _ _ h => h) ⟨⟨_, (Keeps.refl _ wr).drew⟩, rfl⟩ ?_
        refine wpTree_two ?_
        simp only [pickOps, List.getElem?_cons_succ, List.getElem?_cons_zero, Option.elim_some]
        repeat (go_big_quiet_step (fail))
        refine wpQuiet_nil ?_
        refine ⟨?_, ?_⟩
        · refine planAct_some (fun K hK => ?_)
          go_simp
          refine (hD _ (brefl wr).drew).mono ?_
          rintro e1 x1 ⟨A2, c2, rfl, r2, h2, k2⟩
          have ks := k2.size
          have m1 : Keeps (FD p bh bg p) wr x1 := (Keeps.refl _ wr).drew.trans_ (keeps_fdp k2)
          have hsz : wr.heap.size ≤ x1.heap.size := m1.size
          go_wp2_with fail
          refine hK.out _ _ ⟨⟨_, m1⟩, rfl⟩ ?_
          clear hK K
          refine wpTree_one ?_
          simp only [pickOps, List.getElem?_cons_succ, List.getElem?_cons_zero, Option.elim_some]
          repeat (go_big_quiet_step (fail))
          refine wpQuiet_nil ?_
          refine planAct_some (fun K hK => ?_)
          go_simp
          refine hK.out _ _ ⟨⟨_, m1.alloc _⟩, rfl⟩ ?_
          clear hK K
          refine wpTree_one ?_
          simp only [pickOps, List.getElem?_cons_succ, List.getElem?_cons_zero, Option.elim_some]
          repeat (go_big_quiet_step (fail))
          refine wpQuiet_nil ?_
          refine planAct_some (fun K hK => ?_)
          go_simp
          refine hK.out _ _ ⟨⟨_, m1.alloc _⟩, rfl⟩ ?_
          clear hK K
          refine wpTree_fin ?_
          simp only [pickOps, List.getElem?_cons_succ, List.getElem?_cons_zero, Option.elim_some]
          repeat (go_big_quiet_step (fail))
          refine wpQuiet_nil ?_
          refine NoPanic.normal ?_
          clear hX hzz0 hzz1
          have BZ := Blk.new x1 38 #[.slice A2 L c2, .int .i64 (s.go e).slips]
          have KZ : Keeps (fun _ => False) x1 (x1.alloc (.cells #[.slice A2 L c2, .int .i64 (s.go e).slips] 38)) := (Keeps.refl _ x1).alloc _
          have r3 := r2.keeps KZ (fun _ _ q => q)
          have h3 := h2.keeps KZ id id id
          have KW : Keeps (FD p bh bg p) wr _ := m1.alloc (.cells #[.slice A2 L c2, .int .i64 (s.go e).slips] 38)
          have C8x := KW.blk C8 (by unfold FD; omega)
          go_wp2_with fail
          go_meet
          case rel => exact ⟨x1.heap.size, A2, c2, rfl, rfl, h3, r3.mono (fun b hb => hPB b (hb.elim .inl (fun q => .inr q))), by simpa using BZ, C8x, by have := hsz; omega, KW.below kb (by have := kb.size; omega) (fun x hx _ => by unfold FD at hx; omega)⟩
        · refine planAct_some (fun K hK => ?_)
          go_simp
          refine hK.out _ _ ⟨⟨_, (Keeps.refl _ wr).drew.alloc _⟩, rfl⟩ ?_
          clear hK K
          refine wpTree_one ?_
          simp only [pickOps, List.getElem?_cons_succ, List.getElem?_cons_zero, Option.elim_some]
          repeat (go_big_quiet_step (fail))
          refine wpQuiet_nil ?_
          refine planAct_some (fun K hK => ?_)
          go_simp
          refine (hD _ (bnew (brefl wr).drew _)).mono ?_
          rintro e1 x1 ⟨A2, c2, rfl, r2, h2, k2⟩
          have ks := k2.size
          have B10 := k2.blk (Blk.new wr.drew 38 #[.slice none 0 0, .int .i64 0]) (by show ¬ (wr.heap.size = p ∨ wr.heap.size = bh ∨ wr.heap.size = bg); omega)
          have y0 : x1.cell? ⟨wr.heap.size, 0, none⟩ = some (.slice none 0 0) := B10.cell 0
          have y1 : x1.cell? ⟨wr.heap.size, 1, none⟩ = some (.int .i64 0) := B10.cell 1
          have y2 : x1.frozen? ⟨wr.heap.size, 0, none⟩ = false := B10.frozen 0
          have y3 : x1.frozen? ⟨wr.heap.size, 1, none⟩ = false := B10.frozen 1
          have y4 : wr.heap.size < x1.heap.size := B10.lt
          have m1 : Keeps (FD p bh bg p) wr x1 := ((Keeps.refl _ wr).drew.alloc _).trans_ (keeps_fdp k2)
          go_wp2_with fail
          refine hK.out _ _ ⟨⟨_, m1⟩, rfl⟩ ?_
          clear hK K
          refine wpTree_one ?_
          simp only [pickOps, List.getElem?_cons_succ, List.getElem?_cons_zero, Option.elim_some]
          repeat (go_big_quiet_step (fail))
          refine wpQuiet_nil ?_
          refine planAct_some (fun K hK => ?_)
          go_simp
          refine hK.out _ _ ⟨⟨_, fd_new (fd_new m1 (Nat.le_refl _)) (Nat.le_refl _)⟩, rfl⟩ ?_
          clear hK K
          refine wpTree_fin ?_
          simp only [pickOps, List.getElem?_cons_succ, List.getElem?_cons_zero, Option.elim_some]
          repeat (go_big_quiet_step (fail))
          refine wpQuiet_nil ?_
          refine NoPanic.normal ?_
          clear hX hzz0 hzz1
          have BZ := (B10.set_ 0 (.slice A2 L c2)).set_ 1 (.int .i64 (s.go e).slips)
          have KZ : Keeps (fun y => y = wr.heap.size) x1 ((x1.setCell ⟨wr.heap.size, 0, none⟩ (.slice A2 L c2)).setCell ⟨wr.heap.size, 1, none⟩ (.int .i64 (s.go e).slips)) := keepq_set (keepq_set (Keeps.refl _ x1))
          have r3 := (r2.mono (Q := fun b => PB W0.heap.size p bh bg q8 b ∧ b ≠ wr.heap.size) (fun b hb => hPC b (hb.elim (fun q => .inl q) (fun q => .inr (by simp at q; omega))))).keeps KZ (fun b hb q => hb.2 q)
          have h3 := h2.keeps KZ (by omega) (by omega) (by omega)
          have KW : Keeps (FD p bh bg p) wr ((x1.setCell ⟨wr.heap.size, 0, none⟩ (.slice A2 L c2)).setCell ⟨wr.heap.size, 1, none⟩ (.int .i64 (s.go e).slips)) := (fd_new (fd_new m1 (Nat.le_refl _)) (Nat.le_refl _))
          have C8x := KW.blk C8 (by unfold FD; omega)
          go_wp2_with fail
          go_meet
          case rel => exact ⟨wr.heap.size, A2, c2, rfl, rfl, h3, r3.mono (fun b hb => hb.1), by simpa using BZ, C8x, by omega, KW.below kb (by have := kb.size; omega) (fun x hx _ => by unfold FD at hx; omega)⟩
      case rest =>
        obtain ⟨qz, A3, c3, rfl, rfl, h6, r6, CZ, C6, nz6, kb6⟩ := hcut
        clear x0 x1 x2 d0 d1 HD HPB HPC h hp C8 kb
        have g0 : wc.cell? ⟨qz, 0, none⟩ = some (.slice A3 L c3) := CZ.cell 0
        have g1 : wc.cell? ⟨qz, 1, none⟩ = some (.int .i64 (s.go e).slips) := CZ.cell 1
        have g2 : wc.cell? ⟨q8, 0, none⟩ = some (.slice A1 L c1) := C6.cell 0
        have g3 : wc.cell? ⟨q8, 1, none⟩ = some (.int .i64 s.slips) := C6.cell 1
        have g4 := C6.frozen 0
        have g5 := C6.frozen 1
        have g6 := C6.lt
        have g7 := CZ.lt
        go_upto_region 12 with (fail)
        obtain ⟨W7, hW7, h7, r7, C7, kb7⟩ : ∃ W7, ((wc.setCell ⟨q8, 0, none⟩ (.slice A3 L c3)).setCell ⟨q8, 1, none⟩ (.int .i64 (s.go e).slips)) = W7 ∧ WB W7 p bh bg (k + 1) (s.go e) ∧ RP W7 A3 c3 L M (s.go e) (PB W0.heap.size p bh bg q8) ∧ Blk W7 q8 38 #[.slice A3 L c3, .int .i64 (s.go e).slips] ∧ Below W0.heap.size W0 W7 := by
          have KZ : Keeps (fun y => y = q8) wc ((wc.setCell ⟨q8, 0, none⟩ (.slice A3 L c3)).setCell ⟨q8, 1, none⟩ (.int .i64 (s.go e).slips)) := keepq_set (keepq_set (Keeps.refl _ wc))
          refine ⟨_, rfl, h6.keeps KZ (by omega) (by omega) (by omega), r6.keeps KZ (fun b hb q => hb.2.2.2.2 q), by simpa using (C6.set_ 0 (.slice A3 L c3)).set_ 1 (.int .i64 (s.go e).slips), KZ.below kb6 kb6.size (fun x hx _ => by omega)⟩
        rw [hW7]
        clear hW7 g0 g1 g2 g3 g4 g5 g6 g7 h6 r6 CZ C6 kb6
        have d0 : W7.cell? ⟨q8, 0, none⟩ = some (.slice A3 L c3) := C7.cell 0
        have d1 : W7.cell? ⟨q8, 1, none⟩ = some (.int .i64 (s.go e).slips) := C7.cell 1
        obtain ⟨bl', ol', e1, _, hc⟩ := hl2.base opc_len (by decide) (by omega)
        cases e1
        have he := HEQ.out
        have c0 : W0.cell? ⟨bl, ol + k * 3, none⟩ = some (.bool e.tk) := by have h0 := hc k e 0 _ he rfl; simpa using h0
        have c1' : W0.cell? ⟨bl, ol + k * 3 + 1, none⟩ = some (.int .i64 e.a) := by have h0 := hc k e 1 _ he rfl; simpa [Nat.add_assoc] using h0
        have c2' : W0.cell? ⟨bl, ol + k * 3 + 2, none⟩ = some (.int .i64 e.b) := by have h0 := hc k e 2 _ he rfl; simpa [Nat.add_assoc] using h0
        have x0 := keep_below c0 kb7
        have x1 := keep_below c1' kb7
        have x2 := keep_below c2' kb7
        have HG7 : ∀ a b, 0 ≤ (s.go e).G a b ∧ (s.go e).G a b ≤ 1000000 := fun a b => by have := h7.gb a b; omega
        have hin7 := h7.hin
        have hin7 := Lib.hid hin7
        have HG7 := Lib.hid HG7
        clear hc he c0 c1' c2'
        have hX := @Ext.cell W7
        have hzz0 := block_lt_of_cell d0
        have hzz1 := block_lt_of_cell x0
        refine wp_region_noPanic ?_
        refine wp_region_plan (fun w' => ∃ x : Ext W7, w' = x.w) [([0, 1, 2, 3, 4, 5, 6, 7, 8, 9, 10, 11, 12, 13, 14, 15], 16), ([17, 18, 19, 20, 21, 22, 23, 24, 25, 26, 27, 28, 29, 30, 31, 32, 33, 34, 35, 36, 37, 38, 39, 40, 41, 42], 43), ([], 44)] [45, 46] (by kernel_rfl) (by kernel_rfl) (by kernel_rfl) (fun _ _ _ _ _ h => h) ⟨⟨_, (brefl W7).drew⟩, rfl⟩ ?_
        refine wpPlan_cons ?_
        simp only [pickOps, List.getElem?_cons_succ, List.getElem?_cons_zero, Option.elim_some]
        repeat (go_big_quiet_step (fail))
        refine wpQuiet_nil ?_
        refine planAct_some (fun K hK => ?_)
        go_simp
        refine (lawsame_any (h7.below (brefl W7).drew) (r7.1.below (brefl W7).drew) hin7.out HG7.out e.a e.b lk HE.out.1 hu).mono ?_
        rintro e1 x1 ⟨rfl, q1⟩; have m1 := bnext (brefl W7).drew q1
        go_wp2_with fail
        refine hK.out _ _ ⟨⟨_, m1⟩, rfl⟩ ?_
        clear hK K
        refine wpPlan_cons ?_
        simp only [pickOps, List.getElem?_cons_succ, List.getElem?_cons_zero, Option.elim_some]
        repeat (go_big_quiet_step (fail))
        refine wpQuiet_nil ?_
        refine planAct_some (fun K hK => ?_)
        go_simp
        refine (rlink_any (r7.1.below m1) e.a e.b).mono ?_
        rintro e2 x2 ⟨rfl, q2⟩; have m2 := bnext m1 q2
        go_wp2_with fail
        refine hK.out _ _ ⟨⟨_, m2⟩, rfl⟩ ?_
        clear hK K
        refine wpPlan_cons ?_
        simp only [pickOps, List.getElem?_cons_succ, List.getElem?_cons_zero, Option.elim_some]
        repeat (go_big_quiet_step (fail))
        refine wpQuiet_nil ?_
        refine planAct_some (fun K hK => ?_)
        go_simp
        refine (lawsame_any (h7.below m2) (r7.1.below m2) hin7.out HG7.out e.a e.b (linkV (s.go e) e.a e.b : Nat) HE.out.1 (U64.nat (linkV_lt _ _ _))).mono ?_
        rintro e3 x3 ⟨rfl, q3⟩; have m3 := bnext m2 q3
        go_wp2_with fail
        refine hK.out _ _ ⟨⟨_, m3⟩, rfl⟩ ?_
        clear hK K
        refine wpPlan_last ?_
        simp only [pickOps, List.getElem?_cons_succ, List.getElem?_cons_zero, Option.elim_some]
        repeat (go_big_quiet_step (fail))
        refine wpQuiet_nil ?_
        refine NoPanic.normal ?_
        clear hX hzz0 hzz1
        go_wp2_with fail
        go_roundg (gk - 1)
        case measure => omega
        case rel => exact ⟨k + 1, s.go e, A3, c3, by omega, by go_num, h7.below m3, r7.below m3, C7.below_ m3, bnext kb7 m3⟩
    · have t9 : decide ((k : Int) < (n : Int)) = false := decide_eq_false (by omega)
      obtain rfl : k = n := by omega
      have hsb := h.sb
      have hgb := h.gb
      go_upto_region 15 with (go_at_call 17; refine (clone_any h).mono ?_; rintro e w3 ⟨p', bh', bg', rfl, pp1, pp2, pp3, hC, hb3⟩)
      have h3 := h.below hb3
      have hp3 := hp.lt.below hb3
      have C3 := C8.below_ hb3
      have z3 := hC.lts
      have zr := h.lts
      have z8 := C8.lt
      have zs := hb3.size
      have d0 : w3.cell? ⟨q8, 0, none⟩ = some (.slice A1 L c1) := C3.cell 0
      have d1 : w3.cell? ⟨q8, 1, none⟩ = some (.int .i64 s.slips) := C3.cell 1
      have zz8 := C3.lt
      have hD := do_take hC (hp3.mono (Q := fun b => PB W0.heap.size p bh bg q8 b ∧ b < wr.heap.size) (fun _ q => q)) (fun b hb => by have := hb.2; omega) (by omega) (by omega) (fun a b => by have := hgb a b; omega) 0 1
      clear h hp C8
      go_upto_region 16 with (go_at_call 14; refine hD.mono ?_; rintro e w4 ⟨A4, c4, rfl, r4, h4, k4⟩)
      have zs4 := k4.size
      obtain ⟨W6, hW6, h6, r6, g6, s6, C6, CY, kb6⟩ : ∃ W6, w4.alloc (.cells #[.slice A4 L c4, .int .i64 (s.take 0 1).slips] 38) = W6 ∧ WB W6 p' bh' bg' (k + 1) (s.take 0 1) ∧ RW W6 A4 c4 L M (s.take 0 1) ∧ WB W6 p bh bg k s ∧ RW W6 A1 c1 L M s ∧ Blk W6 q8 38 #[.slice A1 L c1, .int .i64 s.slips] ∧ Blk W6 w4.heap.size 38 #[.slice A4 L c4, .int .i64 (s.take 0 1).slips] ∧ Below wr.heap.size wr W6 := by
        refine ⟨_, rfl, h4.below (bnew (brefl w4) _), r4.1.below (bnew (brefl w4) _), (h3.keeps k4 (by omega) (by omega) (by omega)).below (bnew (brefl w4) _), ((hp3.keeps k4 (fun b hb q => by have := hb.2; omega)).1).below (bnew (brefl w4) _), (k4.blk C3 (by omega)).alloc _, Blk.new _ _ _, bnew (k4.below hb3 hb3.size (fun x hx _ => by omega)) _⟩
      rw [hW6]
      have y0 : W6.cell? ⟨w4.heap.size, 0, none⟩ = some (.slice A4 L c4) := CY.cell 0
      have y1 : W6.cell? ⟨w4.heap.size, 1, none⟩ = some (.int .i64 (s.take 0 1).slips) := CY.cell 1
      have y2 := CY.lt
      have v0 : W6.cell? ⟨q8, 0, none⟩ = some (.slice A1 L c1) := C6.cell 0
      have v1 : W6.cell? ⟨q8, 1, none⟩ = some (.int .i64 s.slips) := C6.cell 1
      have wf0 : wfI 0 := by unfold wfI; omega
      have hA := lawsame_any h6 r6 h6.hin (fun a b => by have := h6.gb a b; omega) 0 1 lk wf0 hu
      have hB := fun W (hW : Below W6.heap.size W6 W) => lawsame_any (g6.below hW) (s6.below hW) g6.hin (fun a b => by have := g6.gb a b; omega) 0 1 lk wf0 hu
      have HB := Lib.hid hB
      clear hW6 hB hD h6 r6 g6 s6 C6 CY r4 h4 k4 h3 hp3 C3 hC d0 d1 hgb
      have tok3 : True := trivial
      have tok4 : True := trivial
      go_wp2_with (first
        | (have _t := tok3; go_at_call 15; refine hA.mono ?_; rintro e5 x5 ⟨rfl, q5⟩; have hB := HB.out x5 q5; have u0 := keep_below v0 q5; have u1 := keep_below v1 q5; have uz := block_lt_of_cell u0; clear tok3 _t hA)
        | (have _t := tok4; go_at_call 15; refine hB.mono ?_; rintro e6 x6 ⟨rfl, q6⟩; clear tok4 _t)
        | (go_at_call 6; refine (lives07 _).mono ?_; rintro e7 x7 ⟨rfl, q7⟩))
      go_ret
      exact ⟨rfl, bnext kb0 (bnext kb (bnext kb6 (bnext q5 (bnext q6 q7))))⟩

theorem plays_any {w : World} {A : Option Addr} {n c : Nat} {l : List OpV} (hl : Sl opc w A n c l) (hwf : ∀ x ∈ l, wfI x.a ∧ wfI x.b) (a b lk : Int) (hu : U64 lk) :
    Calls Try.prog 4 #[.agg #[.int .i64 a, .int .i64 b], .slice A n c, .int .u64 lk] w fun e w' => e = .returned (.bool true) ∧ Below w.heap.size w w' := by
  by_cases h0 : a < 1
  · exact plays_out0 a b lk h0
  by_cases h1 : 4 < a
  · exact plays_out1 a b lk ⟨by omega, h1⟩
  by_cases h2 : b < 1
  · exact plays_out2 a b lk ⟨by omega, by omega, h2⟩
  by_cases h3 : 60 < b
  · exact plays_out3 a b lk ⟨by omega, by omega, by omega, h3⟩
  obtain ⟨L, rfl⟩ : ∃ L : Nat, a = (L : Int) := ⟨a.toNat, by omega⟩
  obtain ⟨M, rfl⟩ : ∃ M : Nat, b = (M : Int) := ⟨b.toNat, by omega⟩
  by_cases hn : 60 < n
  · exact plays_long lk (by omega) (by omega) (by omega) (by omega) hn
  · exact plays_in hl hwf lk hu (by omega) (by omega) (by omega) (by omega) (by omega)
end Go.Proofs.Ytlnnnaefmgikpaa
