/- A reader of scripts. -/
import Derived.Test.YtknngjdcbldmgaaDoorSctD
namespace Go.Proofs.YtknngjdcbldmgaaDoor
set_option linter.unusedVariables false
set_option linter.unusedSimpArgs false
open Go.RowKit
def EntR (w : World) (B p : Nat) (c : Cf) (x : Int) (t : List Int) (en : Nat) (e : Ending) (w' : World) : Prop := Keeps (fun b => b = p) w w' ∧ ((60000 ≤ en ∧ Pan 5 e) ∨ (en < 60000 ∧ okE c x = true ∧ e = .returned (.agg #[.int .i64 (x % 8), .int .i64 (x / 8 % 4)]) ∧ RB w' B p t) ∨ (en < 60000 ∧ okE c x = false ∧ Pan 3 e))
theorem entry_any {w : World} {B p : Nat} {c : Cf} {us : List Value} {EA : Option Addr} {en ec : Nat} {x : Int} {t : List Int} (h8 : us.length = 8) (h : RB w B p (x :: t)) (hl : t.length < 900000) (hBw : B ≤ w.heap.size) : Calls Tryd.prog 61 #[.pointer (some ⟨p, 0, none⟩), .agg (scc c us (.slice EA en ec)).toArray] w (EntR w B p c x t en) := by
  by_cases he : 60000 ≤ en
  · exact (entry_long h8 he).mono fun e w' ⟨a, b⟩ => ⟨b, .inl ⟨he, a⟩⟩
  · refine (entry_main h8 (by omega) h hl hBw).mono fun e w' ⟨a, b⟩ => ⟨a, .inr ?_⟩
    rcases b with ⟨b1, b2, b3, b4⟩ | ⟨b1, b2⟩
    · exact .inl ⟨by omega, by rw [okE, b1, decide_eq_true b2]; rfl, b3, b4⟩
    · refine .inr ⟨by omega, ?_, b2⟩
      cases ho : okE c x with
      | false => rfl
      | true =>
        rw [okE, Bool.and_eq_true, decide_eq_true_eq] at ho
        exact absurd ho b1
def ScriptR (w : World) (B p : Nat) (x : Except Int Scr) (e : Ending) (w' : World) : Prop := Keeps (fun b => b = p) w w' ∧ match x with
  | .error n => Pan n e
  | .ok s => ∃ us EA ec, e = .returned (.agg (scc s.c us (.slice EA s.es.length ec)).toArray) ∧ PIn (fun b => b < w.heap.size) w' us s.ps ∧ Sl enc_ w' EA s.es.length ec s.es ∧ (∀ ad, EA = some ad → w.heap.size ≤ ad.block) ∧ (∀ l, l ∈ s.ps → l.length ≤ 40) ∧ s.es.length ≤ 60000
def OnPanic (R : List PanicEntry → Act → World → Prop) (Q : Exit → Act → World → Prop) : Exit → Act → World → Prop
  | .panic c, a, w => R c a w
  | e, a, w => Q e a w
theorem wp_region_panic {P : Program} {id : Nat} {ops : Array Oper} {b : Bool} {Q : Exit → Act → World → Prop} {a : Act} {w : World} (R : List PanicEntry → Act → World → Prop) (hR : ∀ c a w, R c a w → Q (.panic c) a w) (h : (Code.region id ops b).wp P (OnPanic R Q) a w) : (Code.region id ops b).wp P Q a w :=
  Code.wp_mono (fun e a w h => by cases e <;> first | exact hR _ _ _ h | exact h) h
theorem put_defers (a : Act) (d : Option Nat) (v : Value) : (a.put d v).defers = a.defers := by cases d <;> rfl
theorem OnPanic.normal {R : List PanicEntry → Act → World → Prop} {Q : Exit → Act → World → Prop} {a : Act} {w : World} (h : Q .normal a w) : OnPanic R Q .normal a w := h
theorem own_gt {w : World} {base : Nat} {e : TypeId} {size n c : Nat} {A : Option Addr} {xs : List Value} (h : w.ownsRow base e size (.slice A n c) n xs) : ∀ ad, A = some ad → base ≤ ad.block := fun ad q => (own_block h ad q).2.1
theorem PIn.or {S S' : Nat → Prop} {w : World} {us : List Value} {ps : List (List CV)} (h : PIn S w us ps) (h' : PIn S' w us ps) : PIn (fun b => S b ∨ S' b) w us ps :=
  ⟨h.u8, h.p8, fun j l hl => by
    obtain ⟨A, n, c, h1, h2, h3⟩ := h.at_ j l hl
    obtain ⟨A', n', c', k1, k2, k3⟩ := h'.at_ j l hl
    rw [h1] at k1
    cases k1
    exact ⟨A, n, c, h1, h2, fun ad e hne q => q.elim (h3 ad e hne) (k3 ad e hne)⟩⟩
theorem scc_one {S : Nat → Prop} {w : World} {c : Cf} {us : List Value} {ps : List (List CV)} (h : PIn S w us ps) (A : Option Addr) (m d : Nat) : (scc c us (.slice A m d)).toArray.all (·.oneCell') = true := by
  rw [Array.all_eq_true_iff_forall_mem]
  intro v hv
  have hv : v ∈ scc c us (.slice A m d) := by simpa using hv
  unfold scc at hv
  rcases List.mem_append.1 hv with hv | hv
  · unfold cfc at hv
    simp only [List.mem_cons, List.not_mem_nil, or_false] at hv
    rcases hv with rfl | rfl | rfl | rfl | rfl | rfl | rfl | rfl | rfl | rfl | rfl | rfl | rfl | rfl <;> rfl
  · rcases List.mem_append.1 hv with hv | hv
    · obtain ⟨j, hj, rfl⟩ := List.getElem_of_mem hv
      have hj8 : j < 8 := by rw [← h.u8]; exact hj
      obtain ⟨A', n', c', h1, _, _⟩ := h.at_ j _ (List.getElem?_eq_getElem (by rw [h.p8]; exact hj8))
      rw [List.getElem?_eq_getElem hj] at h1
      injection h1 with h1
      rw [h1]
      rfl
    · simp at hv
      rw [hv]
      rfl
theorem extb_blk (q : Nat) (t : TypeId) (cs : Array Value) : ∀ w, (∃ x : ExtB q t cs, w = x.w) → Blk w q t cs := fun w ⟨x, e⟩ => e ▸ x.k
theorem KP_of_drew {S : Nat → Prop} {w w' : World} (h : Keeps S w.drew w') : Keeps S w w' := ⟨h.os, h.tape, h.output, h.size, h.block⟩
theorem elem_en : ∃ i, Elem Tryd.prog 27 51 i (.agg #[.int .i64 0, .int .i64 0]) 2 16 := Elem.of Tryd.underlying27 (by kernel_rfl) rfl (by decide)
theorem cell_one {c : Cf} {us : List Value} {ev : Value} : (scc c us ev).toArray[1]? = some (.int .i64 c.th) := rfl
set_option maxHeartbeats 4000000 in
set_option maxRecDepth 100000 in
theorem script_any {w : World} {B p : Nat} {l : List Int} (h : RB w B p l) (hl : l.length ≤ 900000) (hBw : B ≤ w.heap.size) : Calls Tryd.prog 38 #[.pointer (some ⟨p, 0, none⟩)] w (ScriptR w B p (pScript l)) := by
  obtain ⟨W0, hW0, B0, k0, h0⟩ : ∃ W0, w.alloc (.cells #[.int .i64 0, .int .i64 0, .int .i64 0, .int .i64 0, .int .i64 0, .int .i64 0, .int .i64 0, .int .i64 0, .int .i64 0, .int .i64 0, .int .i64 0, .int .i64 0, .int .i64 0, .int .i64 0, .slice none 0 0, .slice none 0 0, .slice none 0 0, .slice none 0 0, .slice none 0 0, .slice none 0 0, .slice none 0 0, .slice none 0 0, .slice none 0 0] 29) = W0 ∧ Blk W0 w.heap.size 29 #[.int .i64 0, .int .i64 0, .int .i64 0, .int .i64 0, .int .i64 0, .int .i64 0, .int .i64 0, .int .i64 0, .int .i64 0, .int .i64 0, .int .i64 0, .int .i64 0, .int .i64 0, .int .i64 0, .slice none 0 0, .slice none 0 0, .slice none 0 0, .slice none 0 0, .slice none 0 0, .slice none 0 0, .slice none 0 0, .slice none 0 0, .slice none 0 0] ∧ Keeps (fun b => b = p) w W0 ∧ RB W0 B p l := ⟨_, rfl, Blk.new _ _ _, (Keeps.refl _ w).alloc _, h.keeps (S := fun _ => False) ((Keeps.refl _ w).alloc _) (fun _ _ z => z)⟩
  have hpB : p < B := by obtain ⟨_, _, _, _, _, _, _, h⟩ := h; exact h
  have hby := h.by_
  have hws : w.heap.size < W0.heap.size := B0.lt
  have hc := conf_any h0 hl (by omega)
  have HB0 := Lib.hid B0
  have HBY := Lib.hid hby
  clear h B0 hby h0
  by_cases hs : l.length < 16
  · have hc1 : Calls Tryd.prog 59 #[.pointer (some ⟨p, 0, none⟩)] W0 fun e w' => Keeps (fun b => b = p) W0 w' ∧ Pan 4 e := hc.mono fun e w' ⟨a, b⟩ => ⟨a, by
      rcases b with ⟨_, b⟩ | ⟨b, _⟩ | ⟨b, _⟩
      · exact b
      · omega
      · omega⟩
    have HE : Hid (pScript l = .error 4) := by rw [Hid, pScript, if_pos hs]
    rw [HE.out]
    clear hc hs
    go_enter Tryd.func38, Tryd.ntmps38
    go_wp2_with (go_at_call 59; refine hc1.mono ?_; rintro e w2 ⟨hk2, rfl⟩)
    exact ⟨rfl, k0.trans_ hk2, rfl⟩
  cases hm : mayB (confL l) with
  | false =>
    have hc1 : Calls Tryd.prog 59 #[.pointer (some ⟨p, 0, none⟩)] W0 fun e w' => Keeps (fun b => b = p) W0 w' ∧ Pan 2 e := hc.mono fun e w' ⟨a, b⟩ => ⟨a, by
      rcases b with ⟨b, _⟩ | ⟨_, _, b⟩ | ⟨_, b, _⟩
      · exact absurd b hs
      · exact b
      · rw [hm] at b; cases b⟩
    have HE : Hid (pScript l = .error 2) := by rw [Hid, pScript, if_neg hs, if_pos hm]
    rw [HE.out]
    clear hc hs hm
    go_enter Tryd.func38, Tryd.ntmps38
    go_wp2_with (go_at_call 59; refine hc1.mono ?_; rintro e w2 ⟨hk2, rfl⟩)
    exact ⟨rfl, k0.trans_ hk2, rfl⟩
  | true =>
    obtain ⟨c, hcc⟩ : ∃ c, confL l = c := ⟨_, rfl⟩
    have hc1 : Calls Tryd.prog 59 #[.pointer (some ⟨p, 0, none⟩)] W0 fun e w' => Keeps (fun b => b = p) W0 w' ∧ e = .returned (.agg #[.int .i64 c.lv, .int .i64 c.th, .int .i64 c.o0, .int .i64 c.o1, .int .i64 c.o2, .int .i64 c.o3, .int .i64 c.o4, .int .i64 c.o5, .int .i64 c.o6, .int .i64 c.o7, .int .i64 c.sl, .int .i64 c.li, .int .i64 c.ge, .int .i64 c.qu]) ∧ RB w' B p (l.drop 16) := hc.mono fun e w' ⟨a, b⟩ => ⟨a, by
      rcases b with ⟨b, _⟩ | ⟨_, b, _⟩ | ⟨_, _, b, b'⟩
      · exact absurd b hs
      · rw [hm] at b; cases b
      · rw [hcc] at b; exact ⟨b, b'⟩⟩
    have hm' := of_decide_eq_true hm
    rw [hcc] at hm'
    obtain ⟨m, hth⟩ : ∃ m : Nat, c.th = (m : Int) := ⟨c.th.toNat, by have := hm'.t1; omega⟩
    have hm8 : m ≤ 8 := by have := hm'.t2; omega
    have HP : Hid (pScript l = pEnd c (pProgs m 0 nilP (l.drop 16))) := by rw [Hid, pScript, if_neg hs, if_neg (by rw [hm]; decide), hcc, hth]; rfl
    have HTH := Lib.hid hth
    have HR16 : Hid (∀ r : List Int, r = l.drop 16 → r.length ≤ 900000) := fun r e => by rw [e, List.length_drop]; omega
    have HRB : Hid (∀ x, x ∈ l.drop 16 → 0 ≤ x ∧ x < 256) := fun x hx => HBY.out x (List.mem_of_mem_drop hx)
    clear hc hs hm hcc hm' hth HBY
    go_enter Tryd.func38, Tryd.ntmps38
    have tok1 : True := trivial
    have tok2 : True := trivial
    go_upto_region 2 with (first | (have _t := tok1; go_at_call 59; refine hc1.mono ?_; rintro e w1 ⟨k1, rfl, r1⟩; clear tok1 _t) | (have _t := tok2; refine wpList_store_row (o := ⟨none, .store 29 (.tmp 3) (.tmp 7), _, _, _, _⟩) rfl 29 (.tmp 3) (.tmp 7) rfl w1.heap.size _ rfl rfl 29 _ (Blk.new w1 _ _) (by kernel_rfl) (by simp) (by simp [Value.oneCell']) ?_; clear tok2 _t))
    simp only [Act.put]
    obtain ⟨q, hq⟩ : ∃ q, w1.heap.size = q := ⟨_, rfl⟩
    obtain ⟨W1, hW1, C0, C1, r2, k2⟩ : ∃ W1, (w1.alloc (.cells #[.int .i64 0, .int .i64 0, .int .i64 0, .int .i64 0, .int .i64 0, .int .i64 0, .int .i64 0, .int .i64 0, .int .i64 0, .int .i64 0, .int .i64 0, .int .i64 0, .int .i64 0, .int .i64 0, .slice none 0 0, .slice none 0 0, .slice none 0 0, .slice none 0 0, .slice none 0 0, .slice none 0 0, .slice none 0 0, .slice none 0 0, .slice none 0 0] 29)).setRow w1.heap.size #[.int .i64 c.lv, .int .i64 c.th, .int .i64 c.o0, .int .i64 c.o1, .int .i64 c.o2, .int .i64 c.o3, .int .i64 c.o4, .int .i64 c.o5, .int .i64 c.o6, .int .i64 c.o7, .int .i64 c.sl, .int .i64 c.li, .int .i64 c.ge, .int .i64 c.qu, .slice none 0 0, .slice none 0 0, .slice none 0 0, .slice none 0 0, .slice none 0 0, .slice none 0 0, .slice none 0 0, .slice none 0 0, .slice none 0 0] = W1 ∧ Blk W1 w.heap.size 29 #[.int .i64 0, .int .i64 0, .int .i64 0, .int .i64 0, .int .i64 0, .int .i64 0, .int .i64 0, .int .i64 0, .int .i64 0, .int .i64 0, .int .i64 0, .int .i64 0, .int .i64 0, .int .i64 0, .slice none 0 0, .slice none 0 0, .slice none 0 0, .slice none 0 0, .slice none 0 0, .slice none 0 0, .slice none 0 0, .slice none 0 0, .slice none 0 0] ∧ Blk W1 q 29 (scc c nil8 (.slice none 0 0)).toArray ∧ RB W1 B p (l.drop 16) ∧ Keeps (fun b => b = p) w W1 := by
      have kr := keeps_row (w1.alloc (.cells #[.int .i64 0, .int .i64 0, .int .i64 0, .int .i64 0, .int .i64 0, .int .i64 0, .int .i64 0, .int .i64 0, .int .i64 0, .int .i64 0, .int .i64 0, .int .i64 0, .int .i64 0, .int .i64 0, .slice none 0 0, .slice none 0 0, .slice none 0 0, .slice none 0 0, .slice none 0 0, .slice none 0 0, .slice none 0 0, .slice none 0 0, .slice none 0 0] 29)) w1.heap.size #[.int .i64 c.lv, .int .i64 c.th, .int .i64 c.o0, .int .i64 c.o1, .int .i64 c.o2, .int .i64 c.o3, .int .i64 c.o4, .int .i64 c.o5, .int .i64 c.o6, .int .i64 c.o7, .int .i64 c.sl, .int .i64 c.li, .int .i64 c.ge, .int .i64 c.qu, .slice none 0 0, .slice none 0 0, .slice none 0 0, .slice none 0 0, .slice none 0 0, .slice none 0 0, .slice none 0 0, .slice none 0 0, .slice none 0 0]
      have ks := k1.size
      subst hq
      refine ⟨_, rfl, kr.blk ((k1.blk HB0.out (by omega)).alloc _) (by omega), (Blk.new w1 _ _).row _, (r1.keeps (S := fun _ => False) ((Keeps.refl _ w1).alloc _) (fun _ _ z => z)).keeps kr (fun b hb e => by omega), ((k0.trans_ k1).alloc _).trans kr (fun b e hb => by omega)⟩
    have hqw : w.heap.size < q := by have := k1.size; omega
    rw [hW1]
    try rw [hq]
    clear hW1 hq k1 r1 hc1 k0 HB0 hW0 hws
    have x1 : W1.cell? ⟨q, 1, none⟩ = some (.int .i64 (m : Int)) := by rw [← HTH.out]; exact C1.cell_ cell_one
    have z1 := C1.lt
    go_wp2_with fail
    go_loopg [11] m (fun gk i wr => ∃ (k : Nat) (us : List Value) (ps : List (List CV)) (r : List Int), k + gk = m ∧ i = .int .i64 k ∧ Blk wr w.heap.size 29 #[.int .i64 0, .int .i64 0, .int .i64 0, .int .i64 0, .int .i64 0, .int .i64 0, .int .i64 0, .int .i64 0, .int .i64 0, .int .i64 0, .int .i64 0, .int .i64 0, .int .i64 0, .int .i64 0, .slice none 0 0, .slice none 0 0, .slice none 0 0, .slice none 0 0, .slice none 0 0, .slice none 0 0, .slice none 0 0, .slice none 0 0, .slice none 0 0] ∧ Blk wr q 29 (scc c us (.slice none 0 0)).toArray ∧ RB wr B p r ∧ PIn (fun b => b ≤ q) wr us ps ∧ Keeps (fun b => b = p) w wr ∧ Hid (r.length ≤ 900000) ∧ Hid (pScript l = pEnd c (pProgs gk k ps r)) ∧ Hid (∀ l, l ∈ ps → l.length ≤ 40))
    case atStart => exact ⟨0, nil8, nilP, l.drop 16, by omega, rfl, C0, C1, r2, PIn.none_ _ _, k2, HR16.out _ rfl, HP, fun l hl => by
      have : l = [] := by simpa [nilP] using hl
      subst this
      exact Nat.zero_le _⟩
    case round =>
      clear C0 C1 r2 k2 x1 z1 HP HR16
      obtain ⟨k, us, ps, r, hk, rfl, C0, C1, hr, hP, kk, hrl, hp, hp40⟩ := hrel
      have hqr := C1.lt
      by_cases hlt : k < m
      · obtain ⟨g, rfl⟩ : ∃ g, gk = g + 1 := ⟨gk - 1, by omega⟩
        have hc := program_any hr hrl.out (by omega)
        have k0 : (0 : Int) ≤ (k : Int) := by omega
        have k1 : (k : Int) < (m : Int) := by omega
        have k8 : (k : Int) < 8 := by omega
        cases hx : pProg r with
        | error n =>
          rw [hx] at hc
          have HE : Hid (pScript l = .error n) := by rw [Hid, hp.out, pProgs_error hx]; rfl
          rw [HE.out]
          have hc1 : Calls Tryd.prog 60 #[.pointer (some ⟨p, 0, none⟩)] wr fun e w' => Keeps (fun b => b = p) wr w' ∧ Pan n e := hc
          clear hc hx hp
          go_wp2_with (go_at_call 60; refine hc1.mono ?_; rintro e w2 ⟨hk2, rfl⟩)
          exact ⟨rfl, kk.trans_ hk2, rfl⟩
        | ok y =>
          obtain ⟨xs, r'⟩ := y
          rw [hx] at hc
          have HP1 : Hid (pScript l = pEnd c (pProgs g (k + 1) (ps.set k xs) r')) := by rw [Hid, hp.out, pProgs_ok hx]
          have hln := pProg_len hr.by_ hx
          have HL1 : Hid (r'.length ≤ 900000) := Nat.le_trans hln.2 hrl.out
          have H40 : Hid (∀ l, l ∈ ps.set k xs → l.length ≤ 40) := mem_setP hp40.out hln.1
          have hc1 : Calls Tryd.prog 60 #[.pointer (some ⟨p, 0, none⟩)] wr fun e w' => Keeps (fun b => b = p) wr w' ∧ ∃ A m c, e = .returned (.slice A m c) ∧ w'.ownsRow wr.heap.size 63 7 (.slice A m c) m (xs.flatMap cvc) ∧ RB w' B p r' := hc
          have h8 := hP.u8
          obtain ⟨u0, hu0⟩ : ∃ u, us[k]? = some u := ⟨us[k]'(by omega), List.getElem?_eq_getElem (i := k) _⟩
          have HU := Lib.hid (scc_get (c := c) (ev := .slice none 0 0) hu0)
          clear hc hx hp hln hp40 hrl hu0
          go_upto_region 6 with (go_at_call 60; refine hc1.mono ?_; rintro e w2 ⟨hk2, A2, m2, c2, rfl, own2, hr2⟩; have D1 := hk2.blk C1 (by omega); have y1 := (D1.cell (14 + k)).trans ((List.getElem?_toArray ..).trans HU.out); have yf := D1.frozen (14 + k); have yz := D1.lt)
          obtain ⟨V, hV, D2, E2, r2, P2, q2⟩ : ∃ V, w2.setCell ⟨q, 14 + k, none⟩ (.slice A2 m2 c2) = V ∧ Blk V q 29 (scc c (us.set k (.slice A2 m2 c2)) (.slice none 0 0)).toArray ∧ Blk V w.heap.size 29 #[.int .i64 0, .int .i64 0, .int .i64 0, .int .i64 0, .int .i64 0, .int .i64 0, .int .i64 0, .int .i64 0, .int .i64 0, .int .i64 0, .int .i64 0, .int .i64 0, .int .i64 0, .int .i64 0, .slice none 0 0, .slice none 0 0, .slice none 0 0, .slice none 0 0, .slice none 0 0, .slice none 0 0, .slice none 0 0, .slice none 0 0, .slice none 0 0] ∧ RB V B p r' ∧ PIn (fun b => b ≤ q) V (us.set k (.slice A2 m2 c2)) (ps.set k xs) ∧ Keeps (fun b => b = p) w V := by
            have k4 := (Keeps.refl (fun b => b = q) w2).setCell (p := ⟨q, 14 + k, none⟩) (fun _ => rfl) (.slice A2 m2 c2)
            have D2 := D1.set_ (14 + k) (.slice A2 m2 c2)
            rw [List.setIfInBounds_toArray, scc_set (by omega)] at D2
            have o := own_gt own2
            refine ⟨_, rfl, D2, (hk2.blk C0 (by omega)).far (p := ⟨q, 14 + k, none⟩) (by show _ ≠ q; omega) _, hr2.keeps k4 (fun b hb e => by omega), ?_, (kk.trans_ hk2).trans k4 (fun b e hb => by omega)⟩
            exact ((hP.keeps (hk2.mono (S' := fun b => b ≤ q) (fun b e _ => by have e' : b = p := e; omega))).keeps (k4.mono (S' := fun b => b ≤ q) (fun b e _ => by have e' : b = q := e; omega))).setP (k4.sl (Sl.of_own cvc_len (by decide) own2) (fun ad e h => by have := o ad e; have h' : ad.block = q := h; omega)) (fun ad e h => by have := o ad e; omega)
          rw [hV]
          clear hV own2 hr2 D1 y1 yf yz hk2 C0 C1 hr hP kk HU hc1
          go_wp2_with fail
          go_roundg g
          case measure => omega
          case rel => exact ⟨k + 1, _, _, r', by omega, by go_num, E2, D2, r2, P2, q2, HL1, HP1, H40⟩
      · obtain rfl : k = m := by omega
        obtain rfl : gk = 0 := by omega
        have t9 : decide (k < k) = false := decide_eq_false (by omega)
        have HP2 : Hid (pScript l = pEnd2 c ps (pEnts c [] r)) := hp.out
        obtain ⟨q1, hq1⟩ : ∃ q1, wr.heap.size = q1 := ⟨_, rfl⟩
        have h8 := hP.u8
        have P5 := hP.or hP.old
        rw [hq1] at P5
        have HQ1 := Lib.hid hq1
        have hqq1 : q < q1 := by omega
        have HC5 := Lib.hid C1
        have HC0 := Lib.hid C0
        clear hp hP hq1 C1 C0
        go_wp2_with fail
        go_loopg [] r.length (fun gk wr => ∃ (es : List En) (EA : Option Addr) (ec : Nat) (l2 : List Int), l2.length = gk ∧ Blk wr w.heap.size 29 #[.int .i64 0, .int .i64 0, .int .i64 0, .int .i64 0, .int .i64 0, .int .i64 0, .int .i64 0, .int .i64 0, .int .i64 0, .int .i64 0, .int .i64 0, .int .i64 0, .int .i64 0, .int .i64 0, .slice none 0 0, .slice none 0 0, .slice none 0 0, .slice none 0 0, .slice none 0 0, .slice none 0 0, .slice none 0 0, .slice none 0 0, .slice none 0 0] ∧ Blk wr q 29 (scc c us (.slice EA es.length ec)).toArray ∧ wr.ownsRow q1 51 2 (.slice EA es.length ec) es.length (es.flatMap enc_) ∧ RB wr B p l2 ∧ PIn (fun b => b ≤ q ∨ q1 ≤ b) wr us ps ∧ Keeps (fun b => b = p) w wr ∧ Hid (q1 ≤ wr.heap.size) ∧ Hid (l2.length ≤ 900000) ∧ Hid (pScript l = pEnd2 c ps (pEnts c es l2)) ∧ Hid (es.length ≤ 60000))
        case atStart => exact ⟨[], none, 0, r, rfl, HC0.out, HC5.out, World.ownsRow_nil _ _ _ _, hr, P5, kk, by rw [HQ1.out]; exact Nat.le_refl _, hrl, HP2, Nat.zero_le _⟩
        case round =>
          clear HC0 HC5 hr P5 kk HP2 hrl hqr HQ1
          obtain ⟨es, EA, ec, l2, hln, C0, C1, own, hr, hP, kk, hsz, hrl, hp, he60⟩ := hrel
          have hqr := C1.lt
          have hr' := hr
          obtain ⟨RA, rn, rc, hRB, hRS, hR3, hR4, hR5⟩ := hr'
          have hrn := hRS.len
          have xp := hRB.cell 0
          have zp := hRB.lt
          clear hRB hRS hR3 hR4 hR5
          cases l2 with
          | nil =>
            obtain rfl : rn = 0 := hrn.symm
            have HE : Hid (pScript l = .ok ⟨c, ps, es⟩) := by rw [Hid, hp.out, pEnts]; rfl
            have hi := info_scc (c := c) (us := us) (ev := .slice EA es.length ec) h8
            have HOWN := Lib.hid own
            have HC0 := Lib.hid C0
            have HC1 := Lib.hid C1
            obtain ⟨en, hen⟩ : ∃ en, es.length = en := ⟨_, rfl⟩
            have HEN := Lib.hid hen
            have hold : (#[.int .i64 0, .int .i64 0, .int .i64 0, .int .i64 0, .int .i64 0, .int .i64 0, .int .i64 0, .int .i64 0, .int .i64 0, .int .i64 0, .int .i64 0, .int .i64 0, .int .i64 0, .int .i64 0, .slice none 0 0, .slice none 0 0, .slice none 0 0, .slice none 0 0, .slice none 0 0, .slice none 0 0, .slice none 0 0, .slice none 0 0, .slice none 0 0] : Array Value).size = (scc c us (.slice EA en ec)).toArray.size := by show 23 = _; rw [List.size_toArray, scc_len h8]
            rw [hen] at HC1 hi
            clear hen own C0 C1 hp hln hrn
            obtain ⟨cs, hcs⟩ : ∃ cs, scc c us (.slice EA en ec) = cs := ⟨_, rfl⟩
            have hone := scc_one (c := c) hP EA en ec
            rw [hcs] at HC1 hi hold hone
            have HCS := Lib.hid hcs
            clear hcs
            have tok1 : True := trivial
            have tok2 : True := trivial
            go_wp2_with (first | (have _t := tok1; refine wpList_load_row (o := ⟨some 34, _, _, _, _, _⟩) rfl 29 (.tmp 3) rfl q rfl 29 _ _ _ HC1.out Tryd.underlying29 rfl hi ?_; clear tok1 _t) | (have _t := tok2; refine wpList_store_row (o := ⟨none, .store 29 (.tmp 2) (.tmp 34), _, _, _, _⟩) rfl 29 (.tmp 2) (.tmp 34) rfl w.heap.size _ rfl rfl 29 _ HC0.out hi hold hone ?_; clear tok2 _t))
            have kr := keeps_row wr w.heap.size cs.toArray
            have KS := kk.size
            have HF : ScriptR w B p (.ok ⟨c, ps, es⟩) (.returned (.agg cs.toArray)) (wr.setRow w.heap.size cs.toArray) := by
              refine ⟨kk.trans kr (fun b e hb => by omega), us, EA, ec, ?_, ?_, ?_, ?_, ?_, he60.out⟩
              · rw [← HCS.out, ← HEN.out]
              · exact ((hP.weak (S' := fun b => b ≤ q) (fun b h => .inl h)).keeps (kr.mono (S' := fun b => b ≤ q) (fun b e _ => by have e' : b = w.heap.size := e; show b ≤ q; omega))).weak (fun b h => by have h' : b < w.heap.size := h; show b ≤ q; omega)
              · exact kr.sl (Sl.of_own enc__len (by decide) HOWN.out) (fun ad e h => by have := own_gt HOWN.out ad e; have h' : ad.block = w.heap.size := h; omega)
              · exact fun ad e => by have := own_gt HOWN.out ad e; omega
              · exact hp40.out
            rw [← HE.out] at HF
            exact bodyPost_ret (v := .agg cs.toArray) (results_cell_row rfl _ _ w.heap.size 29 _ _ _ rfl (HC0.out.row _) Tryd.underlying29 rfl hi) rfl HF
          | cons x t =>
            have hx0 : (0 : Int) < (rn : Int) := by simp only [List.length_cons] at hrn; omega
            have htl : t.length < 900000 := by have := hrl.out; simp only [List.length_cons] at this; omega
            have hrd : RB wr.drew B p (x :: t) := hr.keeps (S := fun _ => False) (Keeps.refl _ wr).drew (fun _ _ z => z)
            have hen := entry_any (c := c) (us := us) (EA := EA) (en := es.length) (ec := ec) h8 hrd htl (by have := kk.size; show B ≤ wr.heap.size; omega)
            have hi := info_scc (c := c) (us := us) (ev := .slice EA es.length ec) h8
            have x22 : (scc c us (.slice EA es.length ec)).toArray[22]? = some (.slice EA es.length ec) := by rw [List.getElem?_toArray]; exact scc_last h8
            obtain ⟨cs, hcs⟩ : ∃ cs, scc c us (.slice EA es.length ec) = cs := ⟨_, rfl⟩
            rw [hcs] at hen hi x22 C1
            have HCS := Lib.hid hcs
            have HLN := Lib.hid hln
            have HR := Lib.hid hr
            clear hcs hln hrn hr hrd
            have nE : Nonempty (ExtB q 29 cs.toArray) := ⟨⟨wr, C1⟩⟩
            by_cases h60 : 60000 ≤ es.length
            · skip
              have HE : Hid (pScript l = .error 5) := by rw [Hid, hp.out, pEnts, if_pos h60]; rfl
              rw [HE.out]
              have HCN : Hid (Calls Tryd.prog 61 #[.pointer (some ⟨p, 0, none⟩), .agg cs.toArray] wr.drew fun e w' => Keeps (fun b => b = p) wr.drew w' ∧ Pan 5 e) := hen.mono fun e w' ⟨a, b⟩ => ⟨a, by
                rcases b with ⟨_, b⟩ | ⟨b, _⟩ | ⟨b, _⟩
                · exact b
                · omega
                · omega⟩
              clear hen hp HLN
              go_upto_region 8 with (fail)
              have hX : ∀ y : ExtB q 29 cs.toArray, y.w.cell? ⟨q, 22, none⟩ = some (.slice EA es.length ec) := fun y => (y.k.cell 22).trans x22
              refine wp_region_panic (fun ch a w' => a.defers = [] ∧ ScriptR w B p (.error 5) (.panicked ch) w') (fun c a w h => h) ?_
              refine wp_region_plan (fun w' => ∃ x : ExtB q 29 cs.toArray, w' = x.w) [([0, 1, 2, 3], 4), ([], 5), ([], 6), ([7], 8)] [] (by kernel_rfl) (by kernel_rfl) (by kernel_rfl) (fun _ a d v _ h => ⟨(put_defers a d v).symm.trans h.1, h.2⟩) (extb_mem C1.drew) ?_
              refine wpPlan_cons ?_
              simp only [pickOps, List.getElem?_cons_succ, List.getElem?_cons_zero, Option.elim_some]
              go_big_quiet_step (fail)
              go_big_quiet_step (fail)
              go_big_quiet_step (fail)
              refine wpQuiet_load_row rfl 29 (.tmp 3) rfl q rfl 29 _ _ (extb_blk q 29 cs.toArray) Tryd.underlying29 rfl hi ?_; simp only [Act.put, List.setIfInBounds_toArray, List.set_cons_succ, List.set_cons_zero]
              refine wpQuiet_nil ?_
              refine planAct_some (fun K hK => ?_)
              go_simp
              refine (HCN.out).mono ?_
              rintro e w2 ⟨k2, rfl⟩
              exact ⟨rfl, kk.trans_ (KP_of_drew k2), rfl⟩
            · cases ho : okE c x with
              | false =>
                have HE : Hid (pScript l = .error 3) := by rw [Hid, hp.out, pEnts, if_neg h60, if_neg (by rw [ho]; decide)]; rfl
                rw [HE.out]
                have HCN : Hid (Calls Tryd.prog 61 #[.pointer (some ⟨p, 0, none⟩), .agg cs.toArray] wr.drew fun e w' => Keeps (fun b => b = p) wr.drew w' ∧ Pan 3 e) := hen.mono fun e w' ⟨a, b⟩ => ⟨a, by
                  rcases b with ⟨b, _⟩ | ⟨_, b, _⟩ | ⟨_, _, b⟩
                  · exact absurd b h60
                  · rw [ho] at b; cases b
                  · exact b⟩
                clear hen hp HLN
                go_upto_region 8 with (fail)
                have hX : ∀ y : ExtB q 29 cs.toArray, y.w.cell? ⟨q, 22, none⟩ = some (.slice EA es.length ec) := fun y => (y.k.cell 22).trans x22
                refine wp_region_panic (fun ch a w' => a.defers = [] ∧ ScriptR w B p (.error 3) (.panicked ch) w') (fun c a w h => h) ?_
                refine wp_region_plan (fun w' => ∃ x : ExtB q 29 cs.toArray, w' = x.w) [([0, 1, 2, 3], 4), ([], 5), ([], 6), ([7], 8)] [] (by kernel_rfl) (by kernel_rfl) (by kernel_rfl) (fun _ a d v _ h => ⟨(put_defers a d v).symm.trans h.1, h.2⟩) (extb_mem C1.drew) ?_
                refine wpPlan_cons ?_
                simp only [pickOps, List.getElem?_cons_succ, List.getElem?_cons_zero, Option.elim_some]
                go_big_quiet_step (fail)
                go_big_quiet_step (fail)
                go_big_quiet_step (fail)
                refine wpQuiet_load_row rfl 29 (.tmp 3) rfl q rfl 29 _ _ (extb_blk q 29 cs.toArray) Tryd.underlying29 rfl hi ?_; simp only [Act.put, List.setIfInBounds_toArray, List.set_cons_succ, List.set_cons_zero]
                refine wpQuiet_nil ?_
                refine planAct_some (fun K hK => ?_)
                go_simp
                refine (HCN.out).mono ?_
                rintro e w2 ⟨k2, rfl⟩
                exact ⟨rfl, kk.trans_ (KP_of_drew k2), rfl⟩
              | true =>
                have HP1 : Hid (pScript l = pEnd2 c ps (pEnts c (es ++ [entX x]) t)) := by rw [Hid, hp.out, pEnts, if_neg h60, if_pos ho]
                have HCN : Hid (Calls Tryd.prog 61 #[.pointer (some ⟨p, 0, none⟩), .agg cs.toArray] wr.drew fun e w' => Keeps (fun b => b = p) wr.drew w' ∧ e = .returned (.agg #[.int .i64 (x % 8), .int .i64 (x / 8 % 4)]) ∧ RB w' B p t) := hen.mono fun e w' ⟨a, b⟩ => ⟨a, by
                  rcases b with ⟨b, _⟩ | ⟨_, _, b⟩ | ⟨_, b, _⟩
                  · exact absurd b h60
                  · exact b
                  · rw [ho] at b; cases b⟩
                have H61 : Hid ((es ++ [entX x]).length ≤ 60000) := by rw [Hid, List.length_append]; simp only [List.length_cons, List.length_nil]; omega
                have HLE : Hid ((es ++ [entX x]).length = es.length + 1) := by rw [Hid, List.length_append]; rfl
                have HFM : Hid ((es ++ [entX x]).flatMap enc_ = es.flatMap enc_ ++ [.int .i64 (x % 8), .int .i64 (x / 8 % 4)]) := by rw [Hid, List.flatMap_append]; rfl
                obtain ⟨en, hl9⟩ : ∃ en, es.length = en := ⟨_, rfl⟩
                rw [hl9] at own x22 HLE
                have HEN := Lib.hid hl9
                have hen6 : en < 60000 := by omega
                clear hen hp ho h60 hl9 he60
                go_upto_region 8 with (fail)
                obtain ⟨i1, E3⟩ := elem_en
                have hbq : q1 ≤ wr.heap.size := hsz.out
                have hpq : p < q := by omega
                have hX : ∀ y : ExtB q 29 cs.toArray, y.w.cell? ⟨q, 22, none⟩ = some (.slice EA en ec) := fun y => (y.k.cell 22).trans x22
                refine wp_region_noPanic ?_
                refine wp_region_last (fun w' => ∃ x : ExtB q 29 cs.toArray, w' = x.w) 8 (PG.one [0, 1, 2, 3] 4 (PG.one [] 5 (PG.one [] 6 (PG.fin [7])))) (by kernel_rfl) (by kernel_rfl) (by kernel_rfl) (fun _ _ _ _ _ h => h) (extb_mem C1.drew) ?_
                refine wpG_one ?_
                simp only [pickOps, List.getElem?_cons_succ, List.getElem?_cons_zero, Option.elim_some]
                go_big_quiet_step (fail)
                go_big_quiet_step (fail)
                go_big_quiet_step (fail)
                refine wpQuiet_load_row rfl 29 (.tmp 3) rfl q rfl 29 _ _ (extb_blk q 29 cs.toArray) Tryd.underlying29 rfl hi ?_; simp only [Act.put, List.setIfInBounds_toArray, List.set_cons_succ, List.set_cons_zero]
                refine wpQuiet_nil ?_
                refine planAct_some (fun K hK => ?_)
                go_simp
                refine HCN.out.mono ?_
                rintro e w2 ⟨k2d, rfl, r2⟩
                have k2 := KP_of_drew k2d
                have G1 := k2.blk C1 (by omega)
                have own2 := k2.own own (fun k' q1' h => by have := own_ge own k' q1'; have h' : k' = p := h; omega)
                go_wp2_with fail
                refine hK.out _ _ (extb_mem G1) ?_
                clear hK K
                refine wpG_one ?_
                simp only [pickOps, List.getElem?_cons_succ, List.getElem?_cons_zero, Option.elim_some]
                repeat (go_big_quiet_step (fail))
                refine wpQuiet_nil ?_
                refine planAct_some (fun K hK => ?_)
                go_simp
                refine hK.out _ _ (extb_mem (G1.alloc _)) ?_
                clear hK K
                refine wpG_one ?_
                simp only [pickOps, List.getElem?_cons_succ, List.getElem?_cons_zero, Option.elim_some]
                repeat (go_big_quiet_step (fail))
                refine wpQuiet_nil ?_
                refine planAct_some (fun K hK => ?_)
                refine step_app (ys := [.int .i64 (x % 8), .int .i64 (x / 8 % 4)]) (m := 1) E3 rfl (.tmp 27) (.tmp 31) rfl q1 rfl (own2.alloc _) rfl rfl (Rd.new _ _ _ rfl) (by simp [Value.oneCell']) (by unfold maxLen; omega) (by omega) (by have := k2.size; simp; omega) ?_
                intro A8 c8 w8 own8 hg8 _
                have G8 := (G1.alloc (.cells #[.int .i64 (x % 8), .int .i64 (x / 8 % 4)] 51)).grown hg8 (fun q1 => own_ne_blk own2 G1 (by decide) q1.symm)
                go_simp
                refine hK.out _ _ (extb_mem G8) ?_
                clear hK K
                have f8 := G8.frozen 22
                have v8 := (G8.cell 22).trans x22
                have z8 := G8.lt
                refine wpG_fin ?_
                simp only [pickOps, List.getElem?_cons_succ, List.getElem?_cons_zero, Option.elim_some]
                repeat (go_big_quiet_step (fail))
                refine wpQuiet_nil ?_
                refine lastG_some (fun K hK => ?_)
                go_simp
                refine hK.out _ _ ?_
                clear hK K
                refine NoPanic.normal ?_
                clear hX
                obtain ⟨V, hV, D9, E9, r9, P9, q9, o9, z9⟩ : ∃ V, w8.setCell ⟨q, 22, none⟩ (.slice A8 (en + 1) c8) = V ∧ Blk V w.heap.size 29 #[.int .i64 0, .int .i64 0, .int .i64 0, .int .i64 0, .int .i64 0, .int .i64 0, .int .i64 0, .int .i64 0, .int .i64 0, .int .i64 0, .int .i64 0, .int .i64 0, .int .i64 0, .int .i64 0, .slice none 0 0, .slice none 0 0, .slice none 0 0, .slice none 0 0, .slice none 0 0, .slice none 0 0, .slice none 0 0, .slice none 0 0, .slice none 0 0] ∧ Blk V q 29 (scc c us (.slice A8 (en + 1) c8)).toArray ∧ RB V B p t ∧ PIn (fun b => b ≤ q ∨ q1 ≤ b) V us ps ∧ Keeps (fun b => b = p) w V ∧ V.ownsRow q1 51 2 (.slice A8 (en + 1) c8) (en + 1) (es.flatMap enc_ ++ [.int .i64 (x % 8), .int .i64 (x / 8 % 4)]) ∧ q1 ≤ V.heap.size := by
                  have kg : Keeps (fun b => q1 ≤ b) w2 w8 := ((Keeps.refl (fun b => q1 ≤ b) w2).alloc (.cells #[.int .i64 (x % 8), .int .i64 (x / 8 % 4)] 51)).grown hg8 (fun k' h _ => own_ge own2 k' h)
                  have k4 := (Keeps.refl (fun b => b = q) w8).setCell (p := ⟨q, 22, none⟩) (fun _ => rfl) (.slice A8 (en + 1) c8)
                  have G9 := G8.set_ 22 (.slice A8 (en + 1) c8)
                  rw [List.setIfInBounds_toArray, ← HCS.out, scc_setl h8] at G9
                  have s2 := k2.size
                  have sg := kg.size
                  refine ⟨_, rfl, ?_, G9, ?_, ?_, ?_, ?_, ?_⟩
                  · exact (kg.blk (k2.blk C0 (by omega)) (by omega)).far (p := ⟨q, 22, none⟩) (by show _ ≠ q; omega) _
                  · exact (r2.keeps kg (fun b hb e => by omega)).keeps k4 (fun b hb e => by omega)
                  · exact ((hP.keeps (k2.mono (S' := fun b => b ≤ q ∨ q1 ≤ b) (fun b e _ => .inl (by have e' : b = p := e; omega)))).keeps (kg.mono (S' := fun b => b ≤ q ∨ q1 ≤ b) (fun b e _ => .inr e))).keeps (k4.mono (S' := fun b => b ≤ q ∨ q1 ≤ b) (fun b e _ => .inl (by have e' : b = q := e; omega)))
                  · exact ((kk.trans_ k2).trans kg (fun b e hb => by omega)).trans k4 (fun b e hb => by omega)
                  · exact k4.own own8 (fun k' h e => by have := own_ge own8 k' h; have e' : k' = q := e; omega)
                  · exact Nat.le_trans (by omega) k4.size
                rw [hV]
                rw [← HFM.out] at o9
                clear hV own8 hg8 G8 f8 v8 z8 own2 G1 r2 k2 k2d HCN own hP kk C0 C1 HR
                go_wp2_with fail
                go_roundg t.length
                case measure => have := HLN.out; simp only [List.length_cons] at this; omega
                case rel =>
                  refine ⟨es ++ [entX x], A8, c8, t, rfl, D9, ?_, ?_, r9, P9, q9, z9, (by show t.length ≤ 900000; omega), HP1, H61⟩
                  · rw [HLE.out]; exact E9
                  · rw [HLE.out]; exact o9
end Go.Proofs.YtknngjdcbldmgaaDoor
