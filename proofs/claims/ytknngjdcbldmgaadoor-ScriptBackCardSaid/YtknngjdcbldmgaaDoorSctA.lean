/- A reader of programs. -/
import Derived.Test.YtknngjdcbldmgaaDoorScrZ
namespace Go.Proofs.YtknngjdcbldmgaaDoor
set_option linter.unusedVariables false
set_option linter.unusedSimpArgs false
open Go.RowKit

theorem elem_cv : ∃ i, Elem Tryd.prog 25 63 i (.agg #[.int .i64 0, .int .i64 0, .int .i64 0, .int .u64 0, .int .u64 0, .int .u64 0, .int .i64 0]) 7 56 := Elem.of Tryd.underlying25 (by kernel_rfl) rfl (by decide)
def pre (xs : List CV) : Except Int (List CV × List Int) → Except Int (List CV × List Int)
  | .ok (ys, r) => .ok (xs ++ ys, r)
  | .error e => .error e
theorem pre_nil (x : Except Int (List CV × List Int)) : pre [] x = x := by cases x <;> rfl
theorem pre_step (xs : List CV) (g : Nat) (l : List Int) (h1 : 35 ≤ l.length) (h2 : okC (callL l) = true) : pre xs (pCalls (g + 1) l) = pre (xs ++ [callL l]) (pCalls g (l.drop 35)) := by
  rw [pCalls, if_neg (by omega), if_neg (by rw [h2]; decide)]
  cases pCalls g (l.drop 35) with
  | error e => rfl
  | ok p => obtain ⟨a, b⟩ := p; simp [pre]
def ProgR (w : World) (B p : Nat) (x : Except Int (List CV × List Int)) (e : Ending) (w' : World) : Prop := Keeps (fun b => b = p) w w' ∧ match x with
  | .error n => Pan n e
  | .ok (xs, r) => ∃ A m c, e = .returned (.slice A m c) ∧ w'.ownsRow w.heap.size 63 7 (.slice A m c) m (xs.flatMap cvc) ∧ RB w' B p r
set_option maxHeartbeats 4000000 in
set_option maxRecDepth 100000 in
theorem program_any {w : World} {B p : Nat} {l : List Int} (h : RB w B p l) (hl : l.length ≤ 900000) (hBw : B ≤ w.heap.size) : Calls Tryd.prog 60 #[.pointer (some ⟨p, 0, none⟩)] w (ProgR w B p (pProg l)) := by
  match l, h, hl with
  | [], h, _ =>
    have ht := number_end h
    go_enter Tryd.func60, Tryd.ntmps60
    go_wp2_with (go_at_call 70; refine ht.mono ?_; rintro e w1 ⟨rfl, rfl⟩)
    exact ⟨rfl, Keeps.refl _ _, rfl⟩
  | x :: t, h, hl =>
    have hx := h.by_ x (by simp)
    obtain ⟨hx1, hx2⟩ := hx
    have hpB : p < B := by obtain ⟨_, _, _, _, _, _, _, h⟩ := h; exact h
    have htl : t.length ≤ 900000 := by simp only [List.length_cons] at hl; omega
    have ht := number_some h (by omega)
    clear h hl
    by_cases h40 : 40 < x
    · have HR : Hid (pProg (x :: t) = .error 5) := by rw [Hid, pProg, if_pos h40]
      rw [HR.out]
      go_enter Tryd.func60, Tryd.ntmps60
      go_wp2_with (go_at_call 70; refine ht.mono ?_; rintro e w1 ⟨rfl, hr, hk⟩)
      exact ⟨rfl, hk, rfl⟩
    · have HR : Hid (pProg (x :: t) = pCalls x.toNat t) := by rw [Hid, pProg, if_neg h40]
      have t40 : decide (40 < x) = false := decide_eq_false h40
      obtain ⟨m, hm⟩ : ∃ m : Nat, x = (m : Int) := ⟨x.toNat, by omega⟩
      subst hm
      rw [HR.out, Int.toNat_natCast]
      have hm40 : m ≤ 40 := by omega
      obtain ⟨i1, E2⟩ := elem_cv
      clear HR h40
      go_enter Tryd.func60, Tryd.ntmps60
      go_wp2_with (go_at_call 70; refine ht.mono ?_; rintro e w1 ⟨rfl, hr, hk⟩)
      go_loopg [4, 11] m (fun gk s4 i wr => ∃ (k : Nat) (A : Option Addr) (c' : Nat) (xs : List CV) (r : List Int), k + gk = m ∧ i = .int .i64 k ∧ s4 = .slice A k c' ∧ wr.ownsRow w.heap.size 63 7 (.slice A k c') k (xs.flatMap cvc) ∧ RB wr B p r ∧ Keeps (fun b => b = p) w wr ∧ Hid (r.length ≤ 900000) ∧ Hid (pCalls m t = pre xs (pCalls gk r)))
      case atStart => exact ⟨0, none, 0, [], t, by omega, rfl, rfl, World.ownsRow_nil _ _ _ _, hr, hk, htl, (pre_nil _).symm⟩
      case round =>
        clear hr hk ht
        obtain ⟨k, A, c', xs, r, hk, rfl, rfl, own, hr, kk, hrl, hp⟩ := hrel
        by_cases hlt : k < m
        · obtain ⟨g, rfl⟩ : ∃ g, gk = g + 1 := ⟨gk - 1, by omega⟩
          have hc := call_any hr hrl.out (Nat.le_trans hBw kk.size)
          have k0 : (0 : Int) ≤ (k : Int) := by omega
          have k1 : (k : Int) < (m : Int) := by omega
          by_cases h1 : r.length < 35
          · have hc1 : Calls Tryd.prog 72 #[.pointer (some ⟨p, 0, none⟩)] wr fun e w' => Keeps (fun b => b = p) wr w' ∧ Pan 4 e := hc.mono fun e w' ⟨a, b⟩ => ⟨a, by
              rcases b with ⟨_, b⟩ | ⟨b, _⟩ | ⟨b, _⟩
              · exact b
              · omega
              · omega⟩
            have HE : Hid (pCalls m t = .error 4) := by rw [Hid, hp.out, pCalls, if_pos h1]; rfl
            rw [HE.out]
            clear hc h1 hp
            go_wp2_with (go_at_call 72; refine hc1.mono ?_; rintro e w2 ⟨hk2, rfl⟩)
            exact ⟨rfl, kk.trans_ hk2, rfl⟩
          · cases hok : okC (callL r) with
            | false =>
              have hc1 : Calls Tryd.prog 72 #[.pointer (some ⟨p, 0, none⟩)] wr fun e w' => Keeps (fun b => b = p) wr w' ∧ Pan 14 e := hc.mono fun e w' ⟨a, b⟩ => ⟨a, by
                rcases b with ⟨b, _⟩ | ⟨_, _, b⟩ | ⟨_, b, _⟩
                · exact absurd b h1
                · exact b
                · rw [hok] at b; cases b⟩
              have HE : Hid (pCalls m t = .error 14) := by rw [Hid, hp.out, pCalls, if_neg h1, if_pos hok]; rfl
              rw [HE.out]
              clear hc h1 hp hok
              go_wp2_with (go_at_call 72; refine hc1.mono ?_; rintro e w2 ⟨hk2, rfl⟩)
              exact ⟨rfl, kk.trans_ hk2, rfl⟩
            | true =>
              have hc1 : Calls Tryd.prog 72 #[.pointer (some ⟨p, 0, none⟩)] wr fun e w' => Keeps (fun b => b = p) wr w' ∧ e = .returned (.agg (cvc (callL r)).toArray) ∧ RB w' B p (r.drop 35) := hc.mono fun e w' ⟨a, b⟩ => ⟨a, by
                rcases b with ⟨b, _⟩ | ⟨_, b, _⟩ | ⟨_, _, b⟩
                · exact absurd b h1
                · rw [hok] at b; cases b
                · exact b⟩
              have HP1 : Hid (pCalls m t = pre (xs ++ [callL r]) (pCalls g (r.drop 35))) := by rw [Hid, hp.out]; exact pre_step xs g r (by omega) hok
              have HRL : Hid ((r.drop 35).length ≤ 900000) := by have := hrl.out; rw [Hid, List.length_drop]; omega
              have HF : Hid ((xs ++ [callL r]).flatMap cvc = xs.flatMap cvc ++ cvc (callL r)) := by rw [Hid, List.flatMap_append]; simp
              generalize callL r = x at *
              clear hc h1 hp hok hrl hr
              have HC : Hid (Calls Tryd.prog 72 #[.pointer (some ⟨p, 0, none⟩)] wr fun e w' => Keeps (fun b => b = p) wr w' ∧ e = .returned (.agg #[.int .i64 x.op, .int .i64 x.lv, .int .i64 x.key, .int .u64 x.a, .int .u64 x.b, .int .u64 x.h, .int .i64 x.rg]) ∧ RB w' B p (r.drop 35)) := hc1
              clear hc1
              have tok1 : True := trivial
              go_wp2_with (first | (go_at_call 72; refine HC.out.mono ?_; rintro e w2 ⟨hk2, rfl, hr2⟩; have own2 := hk2.own own (fun k' q1 q2 => by have := own_ge own k' q1; omega)) | (have _t := tok1; at_builtin; refine wpList_app (o := ⟨some 17, _, _, _, _, _⟩) (ys := [.int .i64 x.op, .int .i64 x.lv, .int .i64 x.key, .int .u64 x.a, .int .u64 x.b, .int .u64 x.h, .int .i64 x.rg]) (m := 1) E2 rfl (.tmp 13) (.tmp 16) rfl w.heap.size rfl (own2.alloc _) rfl rfl (Rd.new _ _ _ rfl) (by simp [Value.oneCell']) (by unfold maxLen; omega) (by omega) (by have := kk.size; have := hk2.size; simp; omega) ?_; intro A8 c8 w8 own8 hg8 hz8; clear tok1 _t))
              go_roundg g
              case measure => omega
              case rel =>
                have ka := (Keeps.refl (fun b => w.heap.size ≤ b) w2).alloc (.cells #[.int .i64 x.op, .int .i64 x.lv, .int .i64 x.key, .int .u64 x.a, .int .u64 x.b, .int .u64 x.h, .int .i64 x.rg] 63)
                have kb := ka.grown hg8 (fun k' q1 _ => own_ge own2 k' q1)
                exact ⟨k + 1, A8, c8, xs ++ [x], r.drop 35, by omega, by go_num, rfl, by rw [HF.out]; exact own8, hr2.keeps kb (fun b hb q => by omega), (kk.trans_ hk2).trans kb (fun b q hb => by omega), HRL, HP1⟩
        · have t9 : decide (k < m) = false := decide_eq_false (by omega)
          obtain rfl : k = m := by omega
          obtain rfl : gk = 0 := by omega
          go_wp2_with fail
          go_ret
          refine ⟨kk, ?_⟩
          rw [hp.out]
          simp only [pCalls, pre, List.append_nil]
          exact ⟨A, k, c', rfl, own, hr⟩
end Go.Proofs.YtknngjdcbldmgaaDoor
