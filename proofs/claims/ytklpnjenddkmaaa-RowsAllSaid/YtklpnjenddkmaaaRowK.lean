/- Rows: the law RowsTurn. -/
import Derived.Test.YtklpnjenddkmaaaRowJ
namespace Go.Proofs.Ytklpnjenddkmaaa
set_option linter.unusedVariables false
set_option linter.unusedSimpArgs false
open Go.RowKit

theorem eqR_self (r : RV) (w : World) : (binOp .eql 29 (.agg #[.int .i64 r.k, .int .u64 r.a, .int .u64 r.b]) (.agg #[.int .i64 r.k, .int .u64 r.a, .int .u64 r.b])).run Try.prog w = .ok (.bool true) w := by
  have h := eqR r r w
  rw [decide_eq_true rfl] at h
  exact h
set_option maxHeartbeats 4000000 in
set_option maxRecDepth 100000 in
theorem rowsturn_long {w : World} {A : Option Addr} {n c : Nat} {l : List RV} (h : Sl rvc w A n c l) (x : RV) (key : Int) (hn : 200 < n) :
    Calls Try.prog 4 #[.slice A n c, .agg #[.int .i64 x.k, .int .u64 x.a, .int .u64 x.b], .int .i64 key] w fun e w' => e = .returned (.bool true) ∧ Below w.heap.size w w' := by
  go_enter Try.func4, Try.ntmps4
  go_wp2_with (go_at_call 6; refine (lives10 _).mono ?_; rintro e w1 ⟨rfl, hb1⟩)
  go_ret
  exact ⟨rfl, bnext (bnew (brefl w) _) hb1⟩
set_option maxHeartbeats 4000000 in
set_option maxRecDepth 100000 in
theorem rowsturn_any {w : World} {A : Option Addr} {n c : Nat} {l : List RV} (h : Sl rvc w A n c l) (x : RV) (key : Int) :
    Calls Try.prog 4 #[.slice A n c, .agg #[.int .i64 x.k, .int .u64 x.a, .int .u64 x.b], .int .i64 key] w fun e w' => e = .returned (.bool true) ∧ Below w.heap.size w w' := by
  by_cases hn0 : 200 < n
  · exact rowsturn_long h x key hn0
  have hn : n ≤ 200 := by omega
  have hge : ¬ ((200 : Int) < (n : Int)) := by omega
  obtain ⟨i0, E⟩ := elem_r
  have hlen := h.len
  have h' := h.alloc (.cells #[.int .i64 x.k, .int .u64 x.a, .int .u64 x.b] 29)
  have HL : Hid ((l.flatMap rvc).length = n * 3) := by rw [Hid, flat_len rvc_len, hlen]
  have H1 := Lib.hid (rvc_one l)
  have HR := Lib.hid h'.rd
  have hx0 := Blk.new w 29 #[.int .i64 x.k, .int .u64 x.a, .int .u64 x.b]
  have d0 : (w.alloc (.cells #[.int .i64 x.k, .int .u64 x.a, .int .u64 x.b] 29)).cell? ⟨w.heap.size, 0, none⟩ = some (.int .i64 x.k) := hx0.cell 0
  have d1 : (w.alloc (.cells #[.int .i64 x.k, .int .u64 x.a, .int .u64 x.b] 29)).cell? ⟨w.heap.size, 1, none⟩ = some (.int .u64 x.a) := hx0.cell 1
  have d2 : (w.alloc (.cells #[.int .i64 x.k, .int .u64 x.a, .int .u64 x.b] 29)).cell? ⟨w.heap.size, 2, none⟩ = some (.int .u64 x.b) := hx0.cell 2
  obtain ⟨W0, hW0⟩ : ∃ W0, w.alloc (.cells #[.int .i64 x.k, .int .u64 x.a, .int .u64 x.b] 29) = W0 := ⟨_, rfl⟩
  have kb0 : Below w.heap.size w W0 := by rw [← hW0]; exact bnew (brefl w) _
  have hq0 : w.heap.size < W0.heap.size := by rw [← hW0]; simp
  rw [hW0] at d0 d1 d2 HR h'
  clear hn0 hlen
  go_enter Try.func4, Try.ntmps4
  go_upto_region 3 with (fail)
  clear hW0 h hx0
  go_upto_region 4 with (at_builtin; refine wpList_fresh (W0 := W0) (ys := l.flatMap rvc) (m := n) E rfl (.tmp 28) (.tmp 29) rfl (bnew (brefl W0) _) rfl (own_empty (brefl W0) rfl) rfl HL.out (HR.out.alloc _) H1.out (by unfold maxLen; omega) (by omega) ?_; intro A7 c7 w7 own7 hb7 _)
  have S7 := Sl.of_own rvc_len (by decide) own7
  have S0 := h'.below hb7
  have d0 := keep_below d0 hb7
  have d1 := keep_below d1 hb7
  have d2 := keep_below d2 hb7
  have hq7 := block_lt_of_cell d0
  have kb7 := bnext kb0 hb7
  clear HL HR H1 own7 hb7 h' kb0
  have hn5 : n ≤ 1000000 := by omega
  obtain ⟨r, hr⟩ : ∃ r, rowL l key = r := ⟨_, rfl⟩
  have HRL := Lib.hid hr
  clear hr
  have tok1 : True := trivial; have tok2 : True := trivial
  go_upto_region 6 with (first
    | (have _t := tok1; go_at_call 11; refine (put_any S0 hn5 x).mono ?_; rintro e w1 ⟨Aa, na, ca, rfl, Sa, na1, hb1⟩; have e0 := keep_below d0 hb1; have e1 := keep_below d1 hb1; have e2 := keep_below d2 hb1; have hq1 := block_lt_of_cell e0; clear tok1 _t)
    | (have _t := tok2; go_at_call 12; refine (rput_any (S7.below hb1) hn5 x).mono ?_; rintro e w2 ⟨Ab, nb, cb, rfl, Sb, nb1, hb2⟩; clear tok2 _t))
  have S0 := (S0.below hb1).below hb2
  have S7 := (S7.below hb1).below hb2
  have Sa := Sa.below hb2
  have kb2 := bnext (bnext kb7 hb1) hb2
  clear hb1 hb2 d0 d1 d2 e0 e1 e2 hq1 hq7 kb7
  have tok1 : True := trivial
  go_upto_region 7 with (have _t := tok1; go_at_call 13; refine (drop_any S0 hn5 key).mono ?_; rintro e w3 ⟨Ac, nc, cc, rfl, Sc, nc1, hb3⟩; rw [HRL.out]; clear tok1 _t)
  obtain ⟨W3, hW3, B13, kb3⟩ : ∃ W3, w3.alloc (.cells #[.int .i64 r.k, .int .u64 r.a, .int .u64 r.b] 29) = W3 ∧ Blk W3 w3.heap.size 29 #[.int .i64 r.k, .int .u64 r.a, .int .u64 r.b] ∧ Below w2.heap.size w2 W3 := ⟨_, rfl, Blk.new _ _ _, bnew hb3 _⟩
  rw [hW3]
  have S0 := S0.below kb3
  have S7 := S7.below kb3
  have Sa := Sa.below kb3
  have Sb := Sb.below kb3
  have Sc : Sl rvc W3 Ac nc cc (dropL l key) := by rw [← hW3]; exact Sc.alloc _
  have kb3 := bnext kb2 kb3
  clear hW3 hb3 kb2
  generalize w3.heap.size = q13 at *
  have tok1 : True := trivial
  go_upto_region 8 with (have _t := tok1; go_at_call 14; refine (rdrop_any S7 hn5 key).mono ?_; rintro e w4 ⟨Ad, nd, cd, rfl, Sd, nd1, hb4⟩; rw [HRL.out]; clear tok1 _t)
  obtain ⟨W4, hW4, B16, kb4⟩ : ∃ W4, w4.alloc (.cells #[.int .i64 r.k, .int .u64 r.a, .int .u64 r.b] 29) = W4 ∧ Blk W4 w4.heap.size 29 #[.int .i64 r.k, .int .u64 r.a, .int .u64 r.b] ∧ Below W3.heap.size W3 W4 := ⟨_, rfl, Blk.new _ _ _, bnew hb4 _⟩
  rw [hW4]
  have S0 := S0.below kb4
  have S7 := S7.below kb4
  have Sa := Sa.below kb4
  have Sb := Sb.below kb4
  have Sc := Sc.below kb4
  have B13 := B13.below_ kb4
  have Sd : Sl rvc W4 Ad nd cd (dropL l key) := by rw [← hW4]; exact Sd.alloc _
  have kb4 := bnext kb3 kb4
  clear hW4 hb4 kb3
  generalize w4.heap.size = q16 at *
  have tok1 : True := trivial; have tok2 : True := trivial
  go_wp2_with (first
    | (have _t := tok1; go_at_call 15; refine (at_any S0 hn5 key).mono ?_; rintro e w5 ⟨rfl, hb5⟩; clear tok1 _t)
    | (have _t := tok2; go_at_call 16; refine (rat_any (S7.below hb5) hn5 key).mono ?_; rintro e w6 ⟨rfl, hb6⟩; clear tok2 _t))
  have kk := bnext hb5 hb6
  obtain ⟨W6, hW6⟩ : ∃ W6, W6 = w6 := ⟨_, rfl⟩
  subst hW6
  have S0 := S0.below kk
  have S7 := S7.below kk
  have Sa := Sa.below kk
  have Sb := Sb.below kk
  have Sc := Sc.below kk
  have Sd := Sd.below kk
  have B13 := B13.below_ kk
  have B16 := B16.below_ kk
  have kb6 := bnext kb4 kk
  clear kk hb5 hb6 kb4
  have hl7 := Lib.hid S7.len
  go_loopg [22, 23] n (fun gk bv i wr => ∃ (k : Nat) (B : Bool), k + gk = n + 1 ∧ 1 ≤ k ∧ i = .int .i64 k ∧ bv = .bool B ∧ Hid (B = risB (l.take k)) ∧ Below W6.heap.size W6 wr)
  case atStart => exact ⟨1, true, by omega, by omega, rfl, rfl, (ris_one l).symm, brefl W6⟩
  case round =>
    obtain ⟨k, B, hk, h1, rfl, rfl, HB, kr⟩ := hrel
    by_cases hlt : k < n
    · obtain ⟨b, o, rfl, _, hc⟩ := (S7.below kr).base rvc_len (by decide) (by omega)
      obtain ⟨j, rfl⟩ : ∃ j, k = j + 1 := ⟨k - 1, by omega⟩
      obtain ⟨y, hy⟩ : ∃ y, l[j]? = some y := ⟨l[j]'(by have := hl7.out; omega), List.getElem?_eq_getElem (i := j) _⟩
      obtain ⟨z, hz⟩ : ∃ z, l[j + 1]? = some z := ⟨l[j + 1]'(by have := hl7.out; omega), List.getElem?_eq_getElem (i := j + 1) _⟩
      have cj : wr.cell? ⟨b, o + j * 3, none⟩ = some (.int .i64 y.k) := by have h0 := hc j y 0 _ hy rfl; simpa using h0
      have ck : wr.cell? ⟨b, o + (j + 1) * 3, none⟩ = some (.int .i64 z.k) := by have h0 := hc (j + 1) z 0 _ hz rfl; simpa using h0
      have b0 : (0 : Int) ≤ ((j + 1 : Nat) : Int) := by omega
      have b1 : ((j + 1 : Nat) : Int) < (n : Int) := by omega
      have e1 : IntKind.i64.wrap (((j + 1 : Nat) : Int) - 1) = (j : Int) := by rw [IntKind.wrap_i64]; omega
      have b2 : (0 : Int) ≤ (j : Int) := by omega
      have b3 : (j : Int) < (n : Int) := by omega
      have HS := Lib.hid (ris_step hy hz)
      clear hc hy hz
      cases B with
      | false =>
        have HB2 : Hid (false = risB (l.take (j + 1 + 1))) := by rw [Hid, HS.out, ← HB.out]; rfl
        clear HB HS
        go_wp2
        go_quiet (fail)
        obtain ⟨W8, hW8, kb8⟩ : ∃ W8, wr.drewN nq = W8 ∧ Below W6.heap.size W6 W8 := ⟨_, rfl, below_drewN kr _⟩
        rw [hW8]
        clear hW8 cj ck
        go_wp2
        go_roundg (gk - 1)
        case measure => omega
        case rel => exact ⟨j + 1 + 1, false, by omega, by omega, by go_num, rfl, HB2, kb8⟩
      | true =>
        have HB2 : Hid (decide (y.k < z.k) = risB (l.take (j + 1 + 1))) := by rw [Hid, HS.out, ← HB.out]; rfl
        clear HB HS
        go_wp2
        go_quiet (fail)
        obtain ⟨W8, hW8, kb8⟩ : ∃ W8, wr.drewN nq = W8 ∧ Below W6.heap.size W6 W8 := ⟨_, rfl, below_drewN kr _⟩
        rw [hW8]
        clear hW8 cj ck
        go_wp2
        go_roundg (gk - 1)
        case measure => omega
        case rel => exact ⟨j + 1 + 1, decide (y.k < z.k), by omega, by omega, by go_num, rfl, HB2, kb8⟩
    · have hge2 : ¬ ((k : Int) < (n : Int)) := by omega
      have HBF : Hid (B = risB l) := by
        have h0 := HB.out
        rw [List.take_of_length_le (by have := hl7.out; omega)] at h0
        exact h0
      have S0 := S0.below kr
      have S7 := S7.below kr
      have Sa := Sa.below kr
      have Sb := Sb.below kr
      have Sc := Sc.below kr
      have Sd := Sd.below kr
      have B13 := B13.below_ kr
      have B16 := B16.below_ kr
      have kb7 := bnext kb6 kr
      obtain ⟨W7, hW7⟩ : ∃ W7, W7 = wr := ⟨_, rfl⟩
      subst hW7
      clear HB kr kb6 hl7 hlt hk h1
      have hq := eqR_self r
      have hab : ∀ {w : World}, Below W7.heap.size W7 w → Calls Try.prog 10 #[.slice Aa na ca, .slice Ab nb cb] w fun e w' => e = .returned (.bool true) ∧ Below w.heap.size w w' := fun hb => by
        have h0 := rsame_any (Sa.below hb) (Sb.below hb) (by omega) (by omega)
        rwa [decide_eq_true rfl] at h0
      have hcd : ∀ {w : World}, Below W7.heap.size W7 w → Calls Try.prog 10 #[.slice Ac nc cc, .slice Ad nd cd] w fun e w' => e = .returned (.bool true) ∧ Below w.heap.size w w' := fun hb => by
        have h0 := rsame_any (Sc.below hb) (Sd.below hb) (by omega) (by omega)
        rwa [decide_eq_true rfl] at h0
      have h07 : ∀ {w : World}, Below W7.heap.size W7 w → Calls Try.prog 10 #[.slice A n c, .slice A7 n c7] w fun e w' => e = .returned (.bool true) ∧ Below w.heap.size w w' := fun hb => by
        have h0 := rsame_any (S0.below hb) (S7.below hb) (by omega) (by omega)
        rwa [decide_eq_true rfl] at h0
      have hri : ∀ {w : World}, Below W7.heap.size W7 w → Calls Try.prog 17 #[.slice A n c] w fun e w' => e = .returned (.bool B) ∧ Below w.heap.size w w' := fun hb => by
        rw [HBF.out]
        exact rises_any (S0.below hb) hn5
      clear HBF Sa Sb Sc Sd S0 S7
      generalize thr l x.k = t1 at *
      generalize thr l key = t2 at *
      generalize idx l key = i2 at *
      have tok1 : True := trivial; have tok2 : True := trivial; have tok3 : True := trivial; have tok4 : True := trivial; have tok5 : True := trivial
      go_wp2_with (first
        | (have _t := tok1; go_at_call 10; refine (hab (brefl W7)).mono ?_; rintro e w1 ⟨rfl, hb1⟩; clear tok1 _t)
        | (have _t := tok2; go_at_call 10; refine (hcd hb1).mono ?_; rintro e w2 ⟨rfl, hb2⟩; have kc := bnext hb1 hb2; have C13 := B13.below_ kc; have C16 := B16.below_ kc; have p0 : w2.cell? ⟨q13, 0, none⟩ = some (.int .i64 r.k) := C13.cell 0; have p1 : w2.cell? ⟨q13, 1, none⟩ = some (.int .u64 r.a) := C13.cell 1; have p2 : w2.cell? ⟨q13, 2, none⟩ = some (.int .u64 r.b) := C13.cell 2; have s0 : w2.cell? ⟨q16, 0, none⟩ = some (.int .i64 r.k) := C16.cell 0; have s1 : w2.cell? ⟨q16, 1, none⟩ = some (.int .u64 r.a) := C16.cell 1; have s2 : w2.cell? ⟨q16, 2, none⟩ = some (.int .u64 r.b) := C16.cell 2; have z13 := C13.lt; have z16 := C16.lt; clear tok2 _t)
        | (have _t := tok3; go_at_call 17; refine (hri kc).mono ?_; rintro e w3 ⟨rfl, hb3⟩; clear tok3 _t)
        | (have _t := tok4; go_at_call 10; refine (h07 (bnext kc hb3)).mono ?_; rintro e w4 ⟨rfl, hb4⟩; clear tok4 _t)
        | (have _t := tok5; go_at_call 6; refine (lives10 _).mono ?_; rintro e w5 ⟨rfl, hb5⟩; clear tok5 _t))
      go_ret
      exact ⟨rfl, bnext kb7 (bnext (bnext (bnext kc hb3) hb4) hb5)⟩
end Go.Proofs.Ytklpnjenddkmaaa
