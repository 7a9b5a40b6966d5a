/- Memories: the reference's Do. -/
import Derived.Test.YtkfdikbmcleaoaaCellsC
import Derived.Test.YtkfdikbmcleaoaaPlanT
namespace Go.Proofs.Ytkfdikbmcleaoaa
set_option linter.unusedVariables false
set_option linter.unusedSimpArgs false
open Go.RowKit


set_option maxHeartbeats 400000 in
set_option maxRecDepth 100000 in
theorem rdo_neg {w : World} {m : Mem} {A : Option Addr} {c : Nat} (hs : Sl us w A m.ws.length c m.ws) (hl : m.ws.length ≤ 4096) (h1 : 0 ≤ m.ac) (h2 : m.ac ≤ 100000) (h3 : 0 ≤ m.wr) (h4 : m.wr ≤ 100000) (a od nx : Int) (k : Int) (ha : a < 0) :
    Calls Try.prog 20 #[.agg #[.slice A m.ws.length c, .int .i64 m.ac, .int .i64 m.wr, .int .i64 m.la, .bool m.nm, .bool m.ft], .agg #[.int .i64 k, .int .i64 a, .int .u64 od, .int .u64 nx]] w fun e w' => e = .returned (.tuple #[.agg #[.slice A m.ws.length c, .int .i64 (m.ac + 1), .int .i64 m.wr, .int .i64 m.la, .bool m.nm, .bool true], .int .u64 0, .bool false]) ∧ Below w.heap.size w w' := by
  go_enter Try.func20, Try.ntmps20
  go_upto_region 1 with (fail)
  obtain ⟨W0, hW0, m0, m1, m2, m3, m4, m5, f0, f1, f2, f3, f4, f5, r0, r1, r2, r3, r4, r5, y0, y1, y2, y3, y4, y5, x0, x1, x2, x3, hs0, kb, hz2⟩ : ∃ W0, ((w.alloc (.cells #[.slice A m.ws.length c, .int .i64 m.ac, .int .i64 m.wr, .int .i64 m.la, .bool m.nm, .bool m.ft] 44)).alloc (.cells #[.int .i64 k, .int .i64 a, .int .u64 od, .int .u64 nx] 34)).alloc (.cells #[.slice none 0 0, .int .i64 0, .int .i64 0, .int .i64 0, .bool false, .bool false] 44) = W0 ∧ W0.cell? ⟨w.heap.size, 0, none⟩ = some (.slice A m.ws.length c) ∧ W0.cell? ⟨w.heap.size, 1, none⟩ = some (.int .i64 m.ac) ∧ W0.cell? ⟨w.heap.size, 2, none⟩ = some (.int .i64 m.wr) ∧ W0.cell? ⟨w.heap.size, 3, none⟩ = some (.int .i64 m.la) ∧ W0.cell? ⟨w.heap.size, 4, none⟩ = some (.bool m.nm) ∧ W0.cell? ⟨w.heap.size, 5, none⟩ = some (.bool m.ft) ∧ W0.frozen? ⟨w.heap.size, 0, none⟩ = false ∧ W0.frozen? ⟨w.heap.size, 1, none⟩ = false ∧ W0.frozen? ⟨w.heap.size, 2, none⟩ = false ∧ W0.frozen? ⟨w.heap.size, 3, none⟩ = false ∧ W0.frozen? ⟨w.heap.size, 4, none⟩ = false ∧ W0.frozen? ⟨w.heap.size, 5, none⟩ = false ∧ W0.frozen? ⟨w.heap.size + 1 + 1, 0, none⟩ = false ∧ W0.frozen? ⟨w.heap.size + 1 + 1, 1, none⟩ = false ∧ W0.frozen? ⟨w.heap.size + 1 + 1, 2, none⟩ = false ∧ W0.frozen? ⟨w.heap.size + 1 + 1, 3, none⟩ = false ∧ W0.frozen? ⟨w.heap.size + 1 + 1, 4, none⟩ = false ∧ W0.frozen? ⟨w.heap.size + 1 + 1, 5, none⟩ = false ∧ W0.cell? ⟨w.heap.size + 1 + 1, 0, none⟩ = some (.slice none 0 0) ∧ W0.cell? ⟨w.heap.size + 1 + 1, 1, none⟩ = some (.int .i64 0) ∧ W0.cell? ⟨w.heap.size + 1 + 1, 2, none⟩ = some (.int .i64 0) ∧ W0.cell? ⟨w.heap.size + 1 + 1, 3, none⟩ = some (.int .i64 0) ∧ W0.cell? ⟨w.heap.size + 1 + 1, 4, none⟩ = some (.bool false) ∧ W0.cell? ⟨w.heap.size + 1 + 1, 5, none⟩ = some (.bool false) ∧ W0.cell? ⟨w.heap.size + 1, 0, none⟩ = some (.int .i64 k) ∧ W0.cell? ⟨w.heap.size + 1, 1, none⟩ = some (.int .i64 a) ∧ W0.cell? ⟨w.heap.size + 1, 2, none⟩ = some (.int .u64 od) ∧ W0.cell? ⟨w.heap.size + 1, 3, none⟩ = some (.int .u64 nx) ∧ Sl us W0 A m.ws.length c m.ws ∧ Below w.heap.size w W0 ∧ w.heap.size + 1 + 1 < W0.heap.size :=
    ⟨_, rfl, by go_simp, by go_simp, by go_simp, by go_simp, by go_simp, by go_simp, by go_simp, by go_simp, by go_simp, by go_simp, by go_simp, by go_simp, by go_simp, by go_simp, by go_simp, by go_simp, by go_simp, by go_simp, by go_simp, by go_simp, by go_simp, by go_simp, by go_simp, by go_simp, by go_simp, by go_simp, by go_simp, by go_simp, ((hs.alloc _).alloc _).alloc _, bnew (bnew (bnew (brefl w) _) _) _, by simp⟩
  rw [hW0]
  clear hW0
  clear hs hs0
  generalize hnn : m.ws.length = n at *
  have HNN := Lib.hid hnn
  clear hnn
  have t9 : n ≤ 4096 := by omega
  generalize hBB : w.heap.size = B at *
  have HBB := Lib.hid hBB
  clear hBB
  go_wp2
  refine bodyPost_ret (v := .tuple #[.agg #[.slice A n c, .int .i64 (m.ac + 1), .int .i64 m.wr, .int .i64 m.la, .bool m.nm, .bool true], .int .u64 0, .bool false]) (by simp [results, Try.results20, go_sem, y0, y1, y2, y3, y4, y5]) rfl ⟨by rw [HNN.out], ?_⟩
  rw [HBB.out]
  repeat (first | (with_reducible exact kb) | refine Below.setCell ?_ (by simp <;> omega) _ | refine Below.drew ?_ | refine below_drewN ?_ _)

set_option maxHeartbeats 400000 in
set_option maxRecDepth 100000 in
theorem rdo_big {w : World} {m : Mem} {A : Option Addr} {c : Nat} (hs : Sl us w A m.ws.length c m.ws) (hl : m.ws.length ≤ 4096) (h1 : 0 ≤ m.ac) (h2 : m.ac ≤ 100000) (h3 : 0 ≤ m.wr) (h4 : m.wr ≤ 100000) (a od nx : Int) (k : Int) (ha : 0 ≤ a) (hb : (m.ws.length : Int) ≤ a) :
    Calls Try.prog 20 #[.agg #[.slice A m.ws.length c, .int .i64 m.ac, .int .i64 m.wr, .int .i64 m.la, .bool m.nm, .bool m.ft], .agg #[.int .i64 k, .int .i64 a, .int .u64 od, .int .u64 nx]] w fun e w' => e = .returned (.tuple #[.agg #[.slice A m.ws.length c, .int .i64 (m.ac + 1), .int .i64 m.wr, .int .i64 m.la, .bool m.nm, .bool true], .int .u64 0, .bool false]) ∧ Below w.heap.size w w' := by
  have t1 : decide (a < 0) = false := decide_eq_false (by omega)
  go_enter Try.func20, Try.ntmps20
  go_upto_region 1 with (fail)
  obtain ⟨W0, hW0, m0, m1, m2, m3, m4, m5, f0, f1, f2, f3, f4, f5, r0, r1, r2, r3, r4, r5, y0, y1, y2, y3, y4, y5, x0, x1, x2, x3, hs0, kb, hz2⟩ : ∃ W0, ((w.alloc (.cells #[.slice A m.ws.length c, .int .i64 m.ac, .int .i64 m.wr, .int .i64 m.la, .bool m.nm, .bool m.ft] 44)).alloc (.cells #[.int .i64 k, .int .i64 a, .int .u64 od, .int .u64 nx] 34)).alloc (.cells #[.slice none 0 0, .int .i64 0, .int .i64 0, .int .i64 0, .bool false, .bool false] 44) = W0 ∧ W0.cell? ⟨w.heap.size, 0, none⟩ = some (.slice A m.ws.length c) ∧ W0.cell? ⟨w.heap.size, 1, none⟩ = some (.int .i64 m.ac) ∧ W0.cell? ⟨w.heap.size, 2, none⟩ = some (.int .i64 m.wr) ∧ W0.cell? ⟨w.heap.size, 3, none⟩ = some (.int .i64 m.la) ∧ W0.cell? ⟨w.heap.size, 4, none⟩ = some (.bool m.nm) ∧ W0.cell? ⟨w.heap.size, 5, none⟩ = some (.bool m.ft) ∧ W0.frozen? ⟨w.heap.size, 0, none⟩ = false ∧ W0.frozen? ⟨w.heap.size, 1, none⟩ = false ∧ W0.frozen? ⟨w.heap.size, 2, none⟩ = false ∧ W0.frozen? ⟨w.heap.size, 3, none⟩ = false ∧ W0.frozen? ⟨w.heap.size, 4, none⟩ = false ∧ W0.frozen? ⟨w.heap.size, 5, none⟩ = false ∧ W0.frozen? ⟨w.heap.size + 1 + 1, 0, none⟩ = false ∧ W0.frozen? ⟨w.heap.size + 1 + 1, 1, none⟩ = false ∧ W0.frozen? ⟨w.heap.size + 1 + 1, 2, none⟩ = false ∧ W0.frozen? ⟨w.heap.size + 1 + 1, 3, none⟩ = false ∧ W0.frozen? ⟨w.heap.size + 1 + 1, 4, none⟩ = false ∧ W0.frozen? ⟨w.heap.size + 1 + 1, 5, none⟩ = false ∧ W0.cell? ⟨w.heap.size + 1 + 1, 0, none⟩ = some (.slice none 0 0) ∧ W0.cell? ⟨w.heap.size + 1 + 1, 1, none⟩ = some (.int .i64 0) ∧ W0.cell? ⟨w.heap.size + 1 + 1, 2, none⟩ = some (.int .i64 0) ∧ W0.cell? ⟨w.heap.size + 1 + 1, 3, none⟩ = some (.int .i64 0) ∧ W0.cell? ⟨w.heap.size + 1 + 1, 4, none⟩ = some (.bool false) ∧ W0.cell? ⟨w.heap.size + 1 + 1, 5, none⟩ = some (.bool false) ∧ W0.cell? ⟨w.heap.size + 1, 0, none⟩ = some (.int .i64 k) ∧ W0.cell? ⟨w.heap.size + 1, 1, none⟩ = some (.int .i64 a) ∧ W0.cell? ⟨w.heap.size + 1, 2, none⟩ = some (.int .u64 od) ∧ W0.cell? ⟨w.heap.size + 1, 3, none⟩ = some (.int .u64 nx) ∧ Sl us W0 A m.ws.length c m.ws ∧ Below w.heap.size w W0 ∧ w.heap.size + 1 + 1 < W0.heap.size :=
    ⟨_, rfl, by go_simp, by go_simp, by go_simp, by go_simp, by go_simp, by go_simp, by go_simp, by go_simp, by go_simp, by go_simp, by go_simp, by go_simp, by go_simp, by go_simp, by go_simp, by go_simp, by go_simp, by go_simp, by go_simp, by go_simp, by go_simp, by go_simp, by go_simp, by go_simp, by go_simp, by go_simp, by go_simp, by go_simp, ((hs.alloc _).alloc _).alloc _, bnew (bnew (bnew (brefl w) _) _) _, by simp⟩
  rw [hW0]
  clear hW0
  clear hs hs0
  generalize hnn : m.ws.length = n at *
  have HNN := Lib.hid hnn
  clear hnn
  have t9 : n ≤ 4096 := by omega
  generalize hBB : w.heap.size = B at *
  have HBB := Lib.hid hBB
  clear hBB
  go_wp2
  refine bodyPost_ret (v := .tuple #[.agg #[.slice A n c, .int .i64 (m.ac + 1), .int .i64 m.wr, .int .i64 m.la, .bool m.nm, .bool true], .int .u64 0, .bool false]) (by simp [results, Try.results20, go_sem, y0, y1, y2, y3, y4, y5]) rfl ⟨by rw [HNN.out], ?_⟩
  rw [HBB.out]
  repeat (first | (with_reducible exact kb) | refine Below.setCell ?_ (by simp <;> omega) _ | refine Below.drew ?_ | refine below_drewN ?_ _)

set_option maxHeartbeats 400000 in
set_option maxRecDepth 100000 in
theorem rdo_load {w : World} {m : Mem} {A : Option Addr} {c : Nat} (hs : Sl us w A m.ws.length c m.ws) (hl : m.ws.length ≤ 4096) (h1 : 0 ≤ m.ac) (h2 : m.ac ≤ 100000) (h3 : 0 ≤ m.wr) (h4 : m.wr ≤ 100000) (a od nx : Int) (ha : 0 ≤ a) {x : Int} (hx : m.ws[a.toNat]? = some x) :
    Calls Try.prog 20 #[.agg #[.slice A m.ws.length c, .int .i64 m.ac, .int .i64 m.wr, .int .i64 m.la, .bool m.nm, .bool m.ft], .agg #[.int .i64 0, .int .i64 a, .int .u64 od, .int .u64 nx]] w fun e w' => e = .returned (.tuple #[.agg #[.slice A m.ws.length c, .int .i64 (m.ac + 1), .int .i64 m.wr, .int .i64 a, .bool true, .bool m.ft], .int .u64 x, .bool false]) ∧ Below w.heap.size w w' := by
  go_enter Try.func20, Try.ntmps20
  go_upto_region 1 with (fail)
  obtain ⟨W0, hW0, m0, m1, m2, m3, m4, m5, f0, f1, f2, f3, f4, f5, r0, r1, r2, r3, r4, r5, y0, y1, y2, y3, y4, y5, x0, x1, x2, x3, hs0, kb, hz2⟩ : ∃ W0, ((w.alloc (.cells #[.slice A m.ws.length c, .int .i64 m.ac, .int .i64 m.wr, .int .i64 m.la, .bool m.nm, .bool m.ft] 44)).alloc (.cells #[.int .i64 0, .int .i64 a, .int .u64 od, .int .u64 nx] 34)).alloc (.cells #[.slice none 0 0, .int .i64 0, .int .i64 0, .int .i64 0, .bool false, .bool false] 44) = W0 ∧ W0.cell? ⟨w.heap.size, 0, none⟩ = some (.slice A m.ws.length c) ∧ W0.cell? ⟨w.heap.size, 1, none⟩ = some (.int .i64 m.ac) ∧ W0.cell? ⟨w.heap.size, 2, none⟩ = some (.int .i64 m.wr) ∧ W0.cell? ⟨w.heap.size, 3, none⟩ = some (.int .i64 m.la) ∧ W0.cell? ⟨w.heap.size, 4, none⟩ = some (.bool m.nm) ∧ W0.cell? ⟨w.heap.size, 5, none⟩ = some (.bool m.ft) ∧ W0.frozen? ⟨w.heap.size, 0, none⟩ = false ∧ W0.frozen? ⟨w.heap.size, 1, none⟩ = false ∧ W0.frozen? ⟨w.heap.size, 2, none⟩ = false ∧ W0.frozen? ⟨w.heap.size, 3, none⟩ = false ∧ W0.frozen? ⟨w.heap.size, 4, none⟩ = false ∧ W0.frozen? ⟨w.heap.size, 5, none⟩ = false ∧ W0.frozen? ⟨w.heap.size + 1 + 1, 0, none⟩ = false ∧ W0.frozen? ⟨w.heap.size + 1 + 1, 1, none⟩ = false ∧ W0.frozen? ⟨w.heap.size + 1 + 1, 2, none⟩ = false ∧ W0.frozen? ⟨w.heap.size + 1 + 1, 3, none⟩ = false ∧ W0.frozen? ⟨w.heap.size + 1 + 1, 4, none⟩ = false ∧ W0.frozen? ⟨w.heap.size + 1 + 1, 5, none⟩ = false ∧ W0.cell? ⟨w.heap.size + 1 + 1, 0, none⟩ = some (.slice none 0 0) ∧ W0.cell? ⟨w.heap.size + 1 + 1, 1, none⟩ = some (.int .i64 0) ∧ W0.cell? ⟨w.heap.size + 1 + 1, 2, none⟩ = some (.int .i64 0) ∧ W0.cell? ⟨w.heap.size + 1 + 1, 3, none⟩ = some (.int .i64 0) ∧ W0.cell? ⟨w.heap.size + 1 + 1, 4, none⟩ = some (.bool false) ∧ W0.cell? ⟨w.heap.size + 1 + 1, 5, none⟩ = some (.bool false) ∧ W0.cell? ⟨w.heap.size + 1, 0, none⟩ = some (.int .i64 0) ∧ W0.cell? ⟨w.heap.size + 1, 1, none⟩ = some (.int .i64 a) ∧ W0.cell? ⟨w.heap.size + 1, 2, none⟩ = some (.int .u64 od) ∧ W0.cell? ⟨w.heap.size + 1, 3, none⟩ = some (.int .u64 nx) ∧ Sl us W0 A m.ws.length c m.ws ∧ Below w.heap.size w W0 ∧ w.heap.size + 1 + 1 < W0.heap.size :=
    ⟨_, rfl, by go_simp, by go_simp, by go_simp, by go_simp, by go_simp, by go_simp, by go_simp, by go_simp, by go_simp, by go_simp, by go_simp, by go_simp, by go_simp, by go_simp, by go_simp, by go_simp, by go_simp, by go_simp, by go_simp, by go_simp, by go_simp, by go_simp, by go_simp, by go_simp, by go_simp, by go_simp, by go_simp, by go_simp, ((hs.alloc _).alloc _).alloc _, bnew (bnew (bnew (brefl w) _) _) _, by simp⟩
  rw [hW0]
  clear hW0
  have hlx := (List.getElem?_eq_some_iff.1 hx).1
  obtain ⟨b, o, rfl, hb, hc⟩ := hs.base us_len (by decide) (by omega)
  have cx : W0.cell? ⟨b, o + a.toNat, none⟩ = some (.int .u64 x) := by
    have := keep_below (hc a.toNat x 0 _ hx rfl) kb
    simpa using this
  have t1 : decide (a < 0) = false := decide_eq_false (by omega)
  have t2 : decide ((m.ws.length : Int) ≤ a) = false := decide_eq_false (by omega)
  have t3 : a < (m.ws.length : Int) := by omega
  clear hc hx
  clear hs hs0
  generalize hnn : m.ws.length = n at *
  have HNN := Lib.hid hnn
  clear hnn
  have t9 : n ≤ 4096 := by omega
  generalize hBB : w.heap.size = B at *
  have HBB := Lib.hid hBB
  clear hBB
  go_wp2
  refine bodyPost_ret (v := .tuple #[.agg #[.slice (some ⟨b, o, none⟩) n c, .int .i64 (m.ac + 1), .int .i64 m.wr, .int .i64 a, .bool true, .bool m.ft], .int .u64 x, .bool false]) (by simp [results, Try.results20, go_sem, y0, y1, y2, y3, y4, y5]) rfl ⟨by rw [HNN.out], ?_⟩
  rw [HBB.out]
  repeat (first | (with_reducible exact kb) | refine Below.setCell ?_ (by simp <;> omega) _ | refine Below.drew ?_ | refine below_drewN ?_ _)

set_option maxHeartbeats 400000 in
set_option maxRecDepth 100000 in
theorem rdo_miss {w : World} {m : Mem} {A : Option Addr} {c : Nat} (hs : Sl us w A m.ws.length c m.ws) (hl : m.ws.length ≤ 4096) (h1 : 0 ≤ m.ac) (h2 : m.ac ≤ 100000) (h3 : 0 ≤ m.wr) (h4 : m.wr ≤ 100000) (a od nx : Int) (k : Int) (k0 : k ≠ 0) (k1 : k ≠ 1) (ha : 0 ≤ a) {x : Int} (hx : m.ws[a.toNat]? = some x) (hne : x ≠ od) :
    Calls Try.prog 20 #[.agg #[.slice A m.ws.length c, .int .i64 m.ac, .int .i64 m.wr, .int .i64 m.la, .bool m.nm, .bool m.ft], .agg #[.int .i64 k, .int .i64 a, .int .u64 od, .int .u64 nx]] w fun e w' => e = .returned (.tuple #[.agg #[.slice A m.ws.length c, .int .i64 (m.ac + 1), .int .i64 m.wr, .int .i64 a, .bool true, .bool m.ft], .int .u64 0, .bool false]) ∧ Below w.heap.size w w' := by
  go_enter Try.func20, Try.ntmps20
  go_upto_region 1 with (fail)
  obtain ⟨W0, hW0, m0, m1, m2, m3, m4, m5, f0, f1, f2, f3, f4, f5, r0, r1, r2, r3, r4, r5, y0, y1, y2, y3, y4, y5, x0, x1, x2, x3, hs0, kb, hz2⟩ : ∃ W0, ((w.alloc (.cells #[.slice A m.ws.length c, .int .i64 m.ac, .int .i64 m.wr, .int .i64 m.la, .bool m.nm, .bool m.ft] 44)).alloc (.cells #[.int .i64 k, .int .i64 a, .int .u64 od, .int .u64 nx] 34)).alloc (.cells #[.slice none 0 0, .int .i64 0, .int .i64 0, .int .i64 0, .bool false, .bool false] 44) = W0 ∧ W0.cell? ⟨w.heap.size, 0, none⟩ = some (.slice A m.ws.length c) ∧ W0.cell? ⟨w.heap.size, 1, none⟩ = some (.int .i64 m.ac) ∧ W0.cell? ⟨w.heap.size, 2, none⟩ = some (.int .i64 m.wr) ∧ W0.cell? ⟨w.heap.size, 3, none⟩ = some (.int .i64 m.la) ∧ W0.cell? ⟨w.heap.size, 4, none⟩ = some (.bool m.nm) ∧ W0.cell? ⟨w.heap.size, 5, none⟩ = some (.bool m.ft) ∧ W0.frozen? ⟨w.heap.size, 0, none⟩ = false ∧ W0.frozen? ⟨w.heap.size, 1, none⟩ = false ∧ W0.frozen? ⟨w.heap.size, 2, none⟩ = false ∧ W0.frozen? ⟨w.heap.size, 3, none⟩ = false ∧ W0.frozen? ⟨w.heap.size, 4, none⟩ = false ∧ W0.frozen? ⟨w.heap.size, 5, none⟩ = false ∧ W0.frozen? ⟨w.heap.size + 1 + 1, 0, none⟩ = false ∧ W0.frozen? ⟨w.heap.size + 1 + 1, 1, none⟩ = false ∧ W0.frozen? ⟨w.heap.size + 1 + 1, 2, none⟩ = false ∧ W0.frozen? ⟨w.heap.size + 1 + 1, 3, none⟩ = false ∧ W0.frozen? ⟨w.heap.size + 1 + 1, 4, none⟩ = false ∧ W0.frozen? ⟨w.heap.size + 1 + 1, 5, none⟩ = false ∧ W0.cell? ⟨w.heap.size + 1 + 1, 0, none⟩ = some (.slice none 0 0) ∧ W0.cell? ⟨w.heap.size + 1 + 1, 1, none⟩ = some (.int .i64 0) ∧ W0.cell? ⟨w.heap.size + 1 + 1, 2, none⟩ = some (.int .i64 0) ∧ W0.cell? ⟨w.heap.size + 1 + 1, 3, none⟩ = some (.int .i64 0) ∧ W0.cell? ⟨w.heap.size + 1 + 1, 4, none⟩ = some (.bool false) ∧ W0.cell? ⟨w.heap.size + 1 + 1, 5, none⟩ = some (.bool false) ∧ W0.cell? ⟨w.heap.size + 1, 0, none⟩ = some (.int .i64 k) ∧ W0.cell? ⟨w.heap.size + 1, 1, none⟩ = some (.int .i64 a) ∧ W0.cell? ⟨w.heap.size + 1, 2, none⟩ = some (.int .u64 od) ∧ W0.cell? ⟨w.heap.size + 1, 3, none⟩ = some (.int .u64 nx) ∧ Sl us W0 A m.ws.length c m.ws ∧ Below w.heap.size w W0 ∧ w.heap.size + 1 + 1 < W0.heap.size :=
    ⟨_, rfl, by go_simp, by go_simp, by go_simp, by go_simp, by go_simp, by go_simp, by go_simp, by go_simp, by go_simp, by go_simp, by go_simp, by go_simp, by go_simp, by go_simp, by go_simp, by go_simp, by go_simp, by go_simp, by go_simp, by go_simp, by go_simp, by go_simp, by go_simp, by go_simp, by go_simp, by go_simp, by go_simp, by go_simp, ((hs.alloc _).alloc _).alloc _, bnew (bnew (bnew (brefl w) _) _) _, by simp⟩
  rw [hW0]
  clear hW0
  have hlx := (List.getElem?_eq_some_iff.1 hx).1
  obtain ⟨b, o, rfl, hb, hc⟩ := hs.base us_len (by decide) (by omega)
  have cx : W0.cell? ⟨b, o + a.toNat, none⟩ = some (.int .u64 x) := by
    have := keep_below (hc a.toNat x 0 _ hx rfl) kb
    simpa using this
  have t1 : decide (a < 0) = false := decide_eq_false (by omega)
  have t2 : decide ((m.ws.length : Int) ≤ a) = false := decide_eq_false (by omega)
  have t3 : a < (m.ws.length : Int) := by omega
  clear hc hx
  have s0 : (k == 0) = false := by simpa using k0
  have s1 : (k != 1) = true := by simpa using k1
  have s2 : (x != od) = true := by simpa using hne
  clear k0 k1 hne
  clear hs hs0
  generalize hnn : m.ws.length = n at *
  have HNN := Lib.hid hnn
  clear hnn
  have t9 : n ≤ 4096 := by omega
  generalize hBB : w.heap.size = B at *
  have HBB := Lib.hid hBB
  clear hBB
  go_wp2
  refine bodyPost_ret (v := .tuple #[.agg #[.slice (some ⟨b, o, none⟩) n c, .int .i64 (m.ac + 1), .int .i64 m.wr, .int .i64 a, .bool true, .bool m.ft], .int .u64 0, .bool false]) (by simp [results, Try.results20, go_sem, y0, y1, y2, y3, y4, y5]) rfl ⟨by rw [HNN.out], ?_⟩
  rw [HBB.out]
  repeat (first | (with_reducible exact kb) | refine Below.setCell ?_ (by simp <;> omega) _ | refine Below.drew ?_ | refine below_drewN ?_ _)

theorem elem_u : ∃ i, Elem Try.prog 22 24 i (.int .u64 0) 1 8 := Elem.of Try.underlying22 (by kernel_rfl) rfl (by decide)

set_option maxHeartbeats 400000 in
set_option maxRecDepth 100000 in
theorem rdo_store {w : World} {m : Mem} {A : Option Addr} {c : Nat} (hs : Sl us w A m.ws.length c m.ws) (hl : m.ws.length ≤ 4096) (h1 : 0 ≤ m.ac) (h2 : m.ac ≤ 100000) (h3 : 0 ≤ m.wr) (h4 : m.wr ≤ 100000) (a od nx : Int) (ha : 0 ≤ a) {x : Int} (hx : m.ws[a.toNat]? = some x) :
    Calls Try.prog 20 #[.agg #[.slice A m.ws.length c, .int .i64 m.ac, .int .i64 m.wr, .int .i64 m.la, .bool m.nm, .bool m.ft], .agg #[.int .i64 1, .int .i64 a, .int .u64 od, .int .u64 nx]] w fun e w' => ∃ A1 c1, e = .returned (.tuple #[.agg #[.slice A1 m.ws.length c1, .int .i64 (m.ac + 1), .int .i64 (m.wr + 1), .int .i64 a, .bool true, .bool m.ft], .int .u64 0, .bool false]) ∧ w'.ownsRow w.heap.size 24 1 (.slice A1 m.ws.length c1) m.ws.length ((m.ws.set a.toNat nx).map uc) ∧ Below w.heap.size w w' := by
  obtain ⟨i0, E⟩ := elem_u
  go_enter Try.func20, Try.ntmps20
  go_upto_region 1 with (fail)
  obtain ⟨W0, hW0, m0, m1, m2, m3, m4, m5, f0, f1, f2, f3, f4, f5, r0, r1, r2, r3, r4, r5, y0, y1, y2, y3, y4, y5, x0, x1, x2, x3, hs0, kb, hz2⟩ : ∃ W0, ((w.alloc (.cells #[.slice A m.ws.length c, .int .i64 m.ac, .int .i64 m.wr, .int .i64 m.la, .bool m.nm, .bool m.ft] 44)).alloc (.cells #[.int .i64 1, .int .i64 a, .int .u64 od, .int .u64 nx] 34)).alloc (.cells #[.slice none 0 0, .int .i64 0, .int .i64 0, .int .i64 0, .bool false, .bool false] 44) = W0 ∧ W0.cell? ⟨w.heap.size, 0, none⟩ = some (.slice A m.ws.length c) ∧ W0.cell? ⟨w.heap.size, 1, none⟩ = some (.int .i64 m.ac) ∧ W0.cell? ⟨w.heap.size, 2, none⟩ = some (.int .i64 m.wr) ∧ W0.cell? ⟨w.heap.size, 3, none⟩ = some (.int .i64 m.la) ∧ W0.cell? ⟨w.heap.size, 4, none⟩ = some (.bool m.nm) ∧ W0.cell? ⟨w.heap.size, 5, none⟩ = some (.bool m.ft) ∧ W0.frozen? ⟨w.heap.size, 0, none⟩ = false ∧ W0.frozen? ⟨w.heap.size, 1, none⟩ = false ∧ W0.frozen? ⟨w.heap.size, 2, none⟩ = false ∧ W0.frozen? ⟨w.heap.size, 3, none⟩ = false ∧ W0.frozen? ⟨w.heap.size, 4, none⟩ = false ∧ W0.frozen? ⟨w.heap.size, 5, none⟩ = false ∧ W0.frozen? ⟨w.heap.size + 1 + 1, 0, none⟩ = false ∧ W0.frozen? ⟨w.heap.size + 1 + 1, 1, none⟩ = false ∧ W0.frozen? ⟨w.heap.size + 1 + 1, 2, none⟩ = false ∧ W0.frozen? ⟨w.heap.size + 1 + 1, 3, none⟩ = false ∧ W0.frozen? ⟨w.heap.size + 1 + 1, 4, none⟩ = false ∧ W0.frozen? ⟨w.heap.size + 1 + 1, 5, none⟩ = false ∧ W0.cell? ⟨w.heap.size + 1 + 1, 0, none⟩ = some (.slice none 0 0) ∧ W0.cell? ⟨w.heap.size + 1 + 1, 1, none⟩ = some (.int .i64 0) ∧ W0.cell? ⟨w.heap.size + 1 + 1, 2, none⟩ = some (.int .i64 0) ∧ W0.cell? ⟨w.heap.size + 1 + 1, 3, none⟩ = some (.int .i64 0) ∧ W0.cell? ⟨w.heap.size + 1 + 1, 4, none⟩ = some (.bool false) ∧ W0.cell? ⟨w.heap.size + 1 + 1, 5, none⟩ = some (.bool false) ∧ W0.cell? ⟨w.heap.size + 1, 0, none⟩ = some (.int .i64 1) ∧ W0.cell? ⟨w.heap.size + 1, 1, none⟩ = some (.int .i64 a) ∧ W0.cell? ⟨w.heap.size + 1, 2, none⟩ = some (.int .u64 od) ∧ W0.cell? ⟨w.heap.size + 1, 3, none⟩ = some (.int .u64 nx) ∧ Sl us W0 A m.ws.length c m.ws ∧ Below w.heap.size w W0 ∧ w.heap.size + 1 + 1 < W0.heap.size :=
    ⟨_, rfl, by go_simp, by go_simp, by go_simp, by go_simp, by go_simp, by go_simp, by go_simp, by go_simp, by go_simp, by go_simp, by go_simp, by go_simp, by go_simp, by go_simp, by go_simp, by go_simp, by go_simp, by go_simp, by go_simp, by go_simp, by go_simp, by go_simp, by go_simp, by go_simp, by go_simp, by go_simp, by go_simp, by go_simp, ((hs.alloc _).alloc _).alloc _, bnew (bnew (bnew (brefl w) _) _) _, by simp⟩
  rw [hW0]
  clear hW0
  have hlx := (List.getElem?_eq_some_iff.1 hx).1
  obtain ⟨b, o, rfl, hb, hc⟩ := hs.base us_len (by decide) (by omega)
  have cx : W0.cell? ⟨b, o + a.toNat, none⟩ = some (.int .u64 x) := by
    have := keep_below (hc a.toNat x 0 _ hx rfl) kb
    simpa using this
  have t1 : decide (a < 0) = false := decide_eq_false (by omega)
  have t2 : decide ((m.ws.length : Int) ≤ a) = false := decide_eq_false (by omega)
  have t3 : a < (m.ws.length : Int) := by omega
  clear hc hx
  have hsm := hs0
  clear hs hs0
  have HWS : Hid ((m.ws.set a.toNat nx).map uc = (m.ws.map uc).set a.toNat (.int .u64 nx)) := by rw [Hid, List.map_set]; rfl
  have hlw : (m.ws.map uc).length = m.ws.length := by simp
  have hone := uc_one m.ws
  have hrd : Rd W0 (some ⟨b, o, none⟩) (m.ws.map uc) := by
    have := hsm.rd
    rwa [us_map] at this
  obtain ⟨ux, hux⟩ : ∃ ux, (m.ws.map uc)[a.toNat]? = some ux := ⟨_, List.getElem?_eq_getElem (by rw [hlw]; omega)⟩
  have HUX := Lib.hid hux
  clear hsm hux
  generalize hnn : m.ws.length = n at *
  have HNN := Lib.hid hnn
  clear hnn
  generalize hys : m.ws.map uc = ys at *
  have HYS := Lib.hid hys
  clear hys
  have HLW := Lib.hid hlw
  clear hlw
  have t9 : n ≤ 4096 := by omega
  generalize hBB : w.heap.size = B at *
  have HBB := Lib.hid hBB
  clear hBB
  go_upto_region 12 with (fail)
  obtain ⟨W1, hW1, m0, m1, m2, m3, m4, m5, f0, f1, f2, f3, f4, f5, r0, r1, r2, r3, r4, r5, y0, y1, y2, y3, y4, y5, x0, x1, x2, x3, hrd, kb, hz2⟩ : ∃ W1, ((W0.setCell ⟨B, 1, none⟩ (.int .i64 (m.ac + 1))).setCell ⟨B, 3, none⟩ (.int .i64 a)).setCell ⟨B, 4, none⟩ (.bool true) = W1 ∧ W1.cell? ⟨B, 0, none⟩ = some (.slice (some ⟨b, o, none⟩) n c) ∧ W1.cell? ⟨B, 1, none⟩ = some (.int .i64 (m.ac + 1)) ∧ W1.cell? ⟨B, 2, none⟩ = some (.int .i64 m.wr) ∧ W1.cell? ⟨B, 3, none⟩ = some (.int .i64 a) ∧ W1.cell? ⟨B, 4, none⟩ = some (.bool true) ∧ W1.cell? ⟨B, 5, none⟩ = some (.bool m.ft) ∧ W1.frozen? ⟨B, 0, none⟩ = false ∧ W1.frozen? ⟨B, 1, none⟩ = false ∧ W1.frozen? ⟨B, 2, none⟩ = false ∧ W1.frozen? ⟨B, 3, none⟩ = false ∧ W1.frozen? ⟨B, 4, none⟩ = false ∧ W1.frozen? ⟨B, 5, none⟩ = false ∧ W1.frozen? ⟨B + 1 + 1, 0, none⟩ = false ∧ W1.frozen? ⟨B + 1 + 1, 1, none⟩ = false ∧ W1.frozen? ⟨B + 1 + 1, 2, none⟩ = false ∧ W1.frozen? ⟨B + 1 + 1, 3, none⟩ = false ∧ W1.frozen? ⟨B + 1 + 1, 4, none⟩ = false ∧ W1.frozen? ⟨B + 1 + 1, 5, none⟩ = false ∧ W1.cell? ⟨B + 1 + 1, 0, none⟩ = some (.slice none 0 0) ∧ W1.cell? ⟨B + 1 + 1, 1, none⟩ = some (.int .i64 0) ∧ W1.cell? ⟨B + 1 + 1, 2, none⟩ = some (.int .i64 0) ∧ W1.cell? ⟨B + 1 + 1, 3, none⟩ = some (.int .i64 0) ∧ W1.cell? ⟨B + 1 + 1, 4, none⟩ = some (.bool false) ∧ W1.cell? ⟨B + 1 + 1, 5, none⟩ = some (.bool false) ∧ W1.cell? ⟨B + 1, 0, none⟩ = some (.int .i64 1) ∧ W1.cell? ⟨B + 1, 1, none⟩ = some (.int .i64 a) ∧ W1.cell? ⟨B + 1, 2, none⟩ = some (.int .u64 od) ∧ W1.cell? ⟨B + 1, 3, none⟩ = some (.int .u64 nx) ∧ Rd W1 (some ⟨b, o, none⟩) ys ∧ Below B w W1 ∧ B + 1 + 1 < W1.heap.size :=
    ⟨_, rfl, by go_simp, by go_simp, by go_simp, by go_simp, by go_simp, by go_simp, by go_simp, by go_simp, by go_simp, by go_simp, by go_simp, by go_simp, by go_simp, by go_simp, by go_simp, by go_simp, by go_simp, by go_simp, by go_simp, by go_simp, by go_simp, by go_simp, by go_simp, by go_simp, by go_simp, by go_simp, by go_simp, by go_simp, ((hrd.setCell (fun ad h => by cases h; simp; omega) _).setCell (fun ad h => by cases h; simp; omega) _).setCell (fun ad h => by cases h; simp; omega) _, ((kb.setCell (Nat.le_refl _) _).setCell (Nat.le_refl _) _).setCell (Nat.le_refl _) _, by simpa using hz2⟩
  rw [hW1]
  clear hW1
  have hzB : B < W1.heap.size := by omega
  have hzB1 : B + 1 < W1.heap.size := by omega
  go_upto_region 13 with (at_builtin; refine wpList_fresh (W0 := W1) (ys := ys) (m := n) E rfl (.tmp 51) (.tmp 53) rfl (bnew (brefl W1) _) rfl (own_empty (brefl W1) rfl) rfl (by rw [HLW.out]; simp) (hrd.alloc _) hone (by unfold maxLen; omega) (by omega) ?_; intro A8 c8 w8 own8 hb8 _)
  obtain ⟨g, rfl, hg1, hg2, hgf, hgc⟩ := own_form1 own8 (by omega)
  have hgx := hgc _ _ HUX.out
  have hgz := hgf a.toNat
  have m0 := keep_below m0 hb8
  have m1 := keep_below m1 hb8
  have m2 := keep_below m2 hb8
  have m3 := keep_below m3 hb8
  have m4 := keep_below m4 hb8
  have m5 := keep_below m5 hb8
  have y0 := keep_below y0 hb8
  have y1 := keep_below y1 hb8
  have y2 := keep_below y2 hb8
  have y3 := keep_below y3 hb8
  have y4 := keep_below y4 hb8
  have y5 := keep_below y5 hb8
  have x0 := keep_below x0 hb8
  have x1 := keep_below x1 hb8
  have x2 := keep_below x2 hb8
  have x3 := keep_below x3 hb8
  have f0 := keep_frozen f0 (by omega) hb8
  have f1 := keep_frozen f1 (by omega) hb8
  have f2 := keep_frozen f2 (by omega) hb8
  have f3 := keep_frozen f3 (by omega) hb8
  have f4 := keep_frozen f4 (by omega) hb8
  have f5 := keep_frozen f5 (by omega) hb8
  have r0 := keep_frozen r0 (by omega) hb8
  have r1 := keep_frozen r1 (by omega) hb8
  have r2 := keep_frozen r2 (by omega) hb8
  have r3 := keep_frozen r3 (by omega) hb8
  have r4 := keep_frozen r4 (by omega) hb8
  have r5 := keep_frozen r5 (by omega) hb8
  have kb8 : Below B w w8 := kb.trans (hb8.mono (by omega))
  have hz8 : B + 1 + 1 < g := by omega
  have hy8 : B < w8.heap.size := by omega
  have hy81 : B + 1 < w8.heap.size := by omega
  have hy82 : B + 1 + 1 < w8.heap.size := by omega
  have hgB : B < g := by omega
  have hgB1 : B + 1 < g := by omega
  have HO := Lib.hid (own_put own8 a.toNat (.int .u64 nx))
  clear hgc hgf hrd kb own8 hb8
  go_upto_region 16 with (fail)
  obtain ⟨W9, hW9, m0, m1, m2, m3, m4, m5, f0, f1, f2, f3, f4, f5, r0, r1, r2, r3, r4, r5, y0, y1, y2, y3, y4, y5, x0, x1, x2, x3, own9, kb9, hz9⟩ : ∃ W9, ((w8.setCell ⟨g, a.toNat, none⟩ (.int .u64 nx)).setCell ⟨B, 0, none⟩ (.slice (some ⟨g, 0, none⟩) n c8)).setCell ⟨B, 2, none⟩ (.int .i64 (m.wr + 1)) = W9 ∧ W9.cell? ⟨B, 0, none⟩ = some (.slice (some ⟨g, 0, none⟩) n c8) ∧ W9.cell? ⟨B, 1, none⟩ = some (.int .i64 (m.ac + 1)) ∧ W9.cell? ⟨B, 2, none⟩ = some (.int .i64 (m.wr + 1)) ∧ W9.cell? ⟨B, 3, none⟩ = some (.int .i64 a) ∧ W9.cell? ⟨B, 4, none⟩ = some (.bool true) ∧ W9.cell? ⟨B, 5, none⟩ = some (.bool m.ft) ∧ W9.frozen? ⟨B, 0, none⟩ = false ∧ W9.frozen? ⟨B, 1, none⟩ = false ∧ W9.frozen? ⟨B, 2, none⟩ = false ∧ W9.frozen? ⟨B, 3, none⟩ = false ∧ W9.frozen? ⟨B, 4, none⟩ = false ∧ W9.frozen? ⟨B, 5, none⟩ = false ∧ W9.frozen? ⟨B + 1 + 1, 0, none⟩ = false ∧ W9.frozen? ⟨B + 1 + 1, 1, none⟩ = false ∧ W9.frozen? ⟨B + 1 + 1, 2, none⟩ = false ∧ W9.frozen? ⟨B + 1 + 1, 3, none⟩ = false ∧ W9.frozen? ⟨B + 1 + 1, 4, none⟩ = false ∧ W9.frozen? ⟨B + 1 + 1, 5, none⟩ = false ∧ W9.cell? ⟨B + 1 + 1, 0, none⟩ = some (.slice none 0 0) ∧ W9.cell? ⟨B + 1 + 1, 1, none⟩ = some (.int .i64 0) ∧ W9.cell? ⟨B + 1 + 1, 2, none⟩ = some (.int .i64 0) ∧ W9.cell? ⟨B + 1 + 1, 3, none⟩ = some (.int .i64 0) ∧ W9.cell? ⟨B + 1 + 1, 4, none⟩ = some (.bool false) ∧ W9.cell? ⟨B + 1 + 1, 5, none⟩ = some (.bool false) ∧ W9.cell? ⟨B + 1, 0, none⟩ = some (.int .i64 1) ∧ W9.cell? ⟨B + 1, 1, none⟩ = some (.int .i64 a) ∧ W9.cell? ⟨B + 1, 2, none⟩ = some (.int .u64 od) ∧ W9.cell? ⟨B + 1, 3, none⟩ = some (.int .u64 nx) ∧ W9.ownsRow (B + 1 + 1 + 1) 24 1 (.slice (some ⟨g, 0, none⟩) n c8) n (ys.set a.toNat (.int .u64 nx)) ∧ Below B w W9 ∧ B + 1 + 1 < W9.heap.size :=
    ⟨_, rfl, by go_simp, by go_simp, by go_simp, by go_simp, by go_simp, by go_simp, by go_simp, by go_simp, by go_simp, by go_simp, by go_simp, by go_simp, by go_simp, by go_simp, by go_simp, by go_simp, by go_simp, by go_simp, by go_simp, by go_simp, by go_simp, by go_simp, by go_simp, by go_simp, by go_simp, by go_simp, by go_simp, by go_simp, ownsRow_setCell_below (a := ⟨B, 2, none⟩) (ownsRow_setCell_below (a := ⟨B, 0, none⟩) (own_base HO.out (by omega)) (by simp; omega) _) (by simp; omega) _, ((kb8.setCell (by simp; omega) _).setCell (Nat.le_refl _) _).setCell (Nat.le_refl _) _, by simp; omega⟩
  rw [hW9]
  clear hW9
  clear kb8 HO hgx hgz
  have hzB9 : B < W9.heap.size := by omega
  have hzB91 : B + 1 < W9.heap.size := by omega
  have hq0 : B ≠ B + 1 + 1 := by omega
  have hq1 : B + 1 ≠ B + 1 + 1 := by omega
  have hX := @ExtK.cell (B + 1 + 1) W9
  have hzz0 := block_lt_of_cell m0
  have hzz1 := block_lt_of_cell x0
  refine wp_region_noPanic ?_
  refine wp_region_tree (fun w' => ∃ x : ExtK (B + 1 + 1) W9, w' = x.w) (PT.one [0, 1, 2, 3] 4 (PT.fin [5, 6])) (by kernel_rfl) (by kernel_rfl) (by kernel_rfl) (fun _ _ _ _ _ h => h) ⟨⟨_, (Keeps.refl _ W9).drew⟩, rfl⟩ ?_
  refine wpTree_one ?_
  simp only [pickOps, List.getElem?_cons_succ, List.getElem?_cons_zero, Option.elim_some]
  repeat (go_big_quiet_step (fail))
  refine wpQuiet_nil ?_
  refine planAct_some (fun K hK => ?_)
  go_simp
  refine hK.out _ _ (extk_mem (by repeat (first | (with_reducible exact (Keeps.refl _ W9).drew) | (with_reducible exact Keeps.refl _ _) | (with_reducible refine keepq_set ?_) | (with_reducible refine keepq_drew ?_)))) ?_
  clear hK K
  refine wpTree_fin ?_
  simp only [pickOps, List.getElem?_cons_succ, List.getElem?_cons_zero, Option.elim_some]
  repeat (go_big_quiet_step (fail))
  refine wpQuiet_nil ?_
  refine NoPanic.normal ?_
  clear hX hzz0 hzz1
  go_wp2
  refine bodyPost_ret (v := .tuple #[.agg #[.slice (some ⟨g, 0, none⟩) n c8, .int .i64 (m.ac + 1), .int .i64 (m.wr + 1), .int .i64 a, .bool true, .bool m.ft], .int .u64 0, .bool false]) (by simp [results, Try.results20, go_sem, y0, y1, y2, y3, y4, y5]) rfl ⟨some ⟨g, 0, none⟩, c8, by rw [HNN.out], ?_, ?_⟩
  · rw [HNN.out, HWS.out, HBB.out]
    refine own_base (base := B + 1 + 1 + 1) ?_ (by omega)
    repeat (first | (with_reducible exact own9) | (with_reducible refine own_drew ?_) | (with_reducible refine ownsRow_setCell_below ?_ (by simp <;> omega) _))
  · rw [HBB.out]
    repeat (first | (with_reducible exact kb9) | (with_reducible refine Below.setCell ?_ (by simp <;> omega) _) | (with_reducible refine Below.drew ?_) | (with_reducible refine below_drewN ?_ _))

set_option maxHeartbeats 400000 in
set_option maxRecDepth 100000 in
theorem rdo_cas {w : World} {m : Mem} {A : Option Addr} {c : Nat} (hs : Sl us w A m.ws.length c m.ws) (hl : m.ws.length ≤ 4096) (h1 : 0 ≤ m.ac) (h2 : m.ac ≤ 100000) (h3 : 0 ≤ m.wr) (h4 : m.wr ≤ 100000) (a od nx : Int) (k : Int) (k0 : k ≠ 0) (k1 : k ≠ 1) (ha : 0 ≤ a) {x : Int} (hx : m.ws[a.toNat]? = some x) (hxo : x = od) :
    Calls Try.prog 20 #[.agg #[.slice A m.ws.length c, .int .i64 m.ac, .int .i64 m.wr, .int .i64 m.la, .bool m.nm, .bool m.ft], .agg #[.int .i64 k, .int .i64 a, .int .u64 od, .int .u64 nx]] w fun e w' => ∃ A1 c1, e = .returned (.tuple #[.agg #[.slice A1 m.ws.length c1, .int .i64 (m.ac + 1), .int .i64 (m.wr + 1), .int .i64 a, .bool true, .bool m.ft], .int .u64 0, .bool true]) ∧ w'.ownsRow w.heap.size 24 1 (.slice A1 m.ws.length c1) m.ws.length ((m.ws.set a.toNat nx).map uc) ∧ Below w.heap.size w w' := by
  obtain ⟨i0, E⟩ := elem_u
  go_enter Try.func20, Try.ntmps20
  go_upto_region 1 with (fail)
  obtain ⟨W0, hW0, m0, m1, m2, m3, m4, m5, f0, f1, f2, f3, f4, f5, r0, r1, r2, r3, r4, r5, y0, y1, y2, y3, y4, y5, x0, x1, x2, x3, hs0, kb, hz2⟩ : ∃ W0, ((w.alloc (.cells #[.slice A m.ws.length c, .int .i64 m.ac, .int .i64 m.wr, .int .i64 m.la, .bool m.nm, .bool m.ft] 44)).alloc (.cells #[.int .i64 k, .int .i64 a, .int .u64 od, .int .u64 nx] 34)).alloc (.cells #[.slice none 0 0, .int .i64 0, .int .i64 0, .int .i64 0, .bool false, .bool false] 44) = W0 ∧ W0.cell? ⟨w.heap.size, 0, none⟩ = some (.slice A m.ws.length c) ∧ W0.cell? ⟨w.heap.size, 1, none⟩ = some (.int .i64 m.ac) ∧ W0.cell? ⟨w.heap.size, 2, none⟩ = some (.int .i64 m.wr) ∧ W0.cell? ⟨w.heap.size, 3, none⟩ = some (.int .i64 m.la) ∧ W0.cell? ⟨w.heap.size, 4, none⟩ = some (.bool m.nm) ∧ W0.cell? ⟨w.heap.size, 5, none⟩ = some (.bool m.ft) ∧ W0.frozen? ⟨w.heap.size, 0, none⟩ = false ∧ W0.frozen? ⟨w.heap.size, 1, none⟩ = false ∧ W0.frozen? ⟨w.heap.size, 2, none⟩ = false ∧ W0.frozen? ⟨w.heap.size, 3, none⟩ = false ∧ W0.frozen? ⟨w.heap.size, 4, none⟩ = false ∧ W0.frozen? ⟨w.heap.size, 5, none⟩ = false ∧ W0.frozen? ⟨w.heap.size + 1 + 1, 0, none⟩ = false ∧ W0.frozen? ⟨w.heap.size + 1 + 1, 1, none⟩ = false ∧ W0.frozen? ⟨w.heap.size + 1 + 1, 2, none⟩ = false ∧ W0.frozen? ⟨w.heap.size + 1 + 1, 3, none⟩ = false ∧ W0.frozen? ⟨w.heap.size + 1 + 1, 4, none⟩ = false ∧ W0.frozen? ⟨w.heap.size + 1 + 1, 5, none⟩ = false ∧ W0.cell? ⟨w.heap.size + 1 + 1, 0, none⟩ = some (.slice none 0 0) ∧ W0.cell? ⟨w.heap.size + 1 + 1, 1, none⟩ = some (.int .i64 0) ∧ W0.cell? ⟨w.heap.size + 1 + 1, 2, none⟩ = some (.int .i64 0) ∧ W0.cell? ⟨w.heap.size + 1 + 1, 3, none⟩ = some (.int .i64 0) ∧ W0.cell? ⟨w.heap.size + 1 + 1, 4, none⟩ = some (.bool false) ∧ W0.cell? ⟨w.heap.size + 1 + 1, 5, none⟩ = some (.bool false) ∧ W0.cell? ⟨w.heap.size + 1, 0, none⟩ = some (.int .i64 k) ∧ W0.cell? ⟨w.heap.size + 1, 1, none⟩ = some (.int .i64 a) ∧ W0.cell? ⟨w.heap.size + 1, 2, none⟩ = some (.int .u64 od) ∧ W0.cell? ⟨w.heap.size + 1, 3, none⟩ = some (.int .u64 nx) ∧ Sl us W0 A m.ws.length c m.ws ∧ Below w.heap.size w W0 ∧ w.heap.size + 1 + 1 < W0.heap.size :=
    ⟨_, rfl, by go_simp, by go_simp, by go_simp, by go_simp, by go_simp, by go_simp, by go_simp, by go_simp, by go_simp, by go_simp, by go_simp, by go_simp, by go_simp, by go_simp, by go_simp, by go_simp, by go_simp, by go_simp, by go_simp, by go_simp, by go_simp, by go_simp, by go_simp, by go_simp, by go_simp, by go_simp, by go_simp, by go_simp, ((hs.alloc _).alloc _).alloc _, bnew (bnew (bnew (brefl w) _) _) _, by simp⟩
  rw [hW0]
  clear hW0
  have hlx := (List.getElem?_eq_some_iff.1 hx).1
  obtain ⟨b, o, rfl, hb, hc⟩ := hs.base us_len (by decide) (by omega)
  have cx : W0.cell? ⟨b, o + a.toNat, none⟩ = some (.int .u64 x) := by
    have := keep_below (hc a.toNat x 0 _ hx rfl) kb
    simpa using this
  have t1 : decide (a < 0) = false := decide_eq_false (by omega)
  have t2 : decide ((m.ws.length : Int) ≤ a) = false := decide_eq_false (by omega)
  have t3 : a < (m.ws.length : Int) := by omega
  clear hc hx
  have s0 : (k == 0) = false := by simpa using k0
  have s1 : (k != 1) = true := by simpa using k1
  have s2 : (od != od) = false := by simp
  rw [hxo] at cx
  clear k0 k1 hxo
  have hsm := hs0
  clear hs hs0
  have HWS : Hid ((m.ws.set a.toNat nx).map uc = (m.ws.map uc).set a.toNat (.int .u64 nx)) := by rw [Hid, List.map_set]; rfl
  have hlw : (m.ws.map uc).length = m.ws.length := by simp
  have hone := uc_one m.ws
  have hrd : Rd W0 (some ⟨b, o, none⟩) (m.ws.map uc) := by
    have := hsm.rd
    rwa [us_map] at this
  obtain ⟨ux, hux⟩ : ∃ ux, (m.ws.map uc)[a.toNat]? = some ux := ⟨_, List.getElem?_eq_getElem (by rw [hlw]; omega)⟩
  have HUX := Lib.hid hux
  clear hsm hux
  generalize hnn : m.ws.length = n at *
  have HNN := Lib.hid hnn
  clear hnn
  generalize hys : m.ws.map uc = ys at *
  have HYS := Lib.hid hys
  clear hys
  have HLW := Lib.hid hlw
  clear hlw
  have t9 : n ≤ 4096 := by omega
  generalize hBB : w.heap.size = B at *
  have HBB := Lib.hid hBB
  clear hBB
  go_upto_region 12 with (fail)
  obtain ⟨W1, hW1, m0, m1, m2, m3, m4, m5, f0, f1, f2, f3, f4, f5, r0, r1, r2, r3, r4, r5, y0, y1, y2, y3, y4, y5, x0, x1, x2, x3, hrd, kb, hz2⟩ : ∃ W1, ((W0.setCell ⟨B, 1, none⟩ (.int .i64 (m.ac + 1))).setCell ⟨B, 3, none⟩ (.int .i64 a)).setCell ⟨B, 4, none⟩ (.bool true) = W1 ∧ W1.cell? ⟨B, 0, none⟩ = some (.slice (some ⟨b, o, none⟩) n c) ∧ W1.cell? ⟨B, 1, none⟩ = some (.int .i64 (m.ac + 1)) ∧ W1.cell? ⟨B, 2, none⟩ = some (.int .i64 m.wr) ∧ W1.cell? ⟨B, 3, none⟩ = some (.int .i64 a) ∧ W1.cell? ⟨B, 4, none⟩ = some (.bool true) ∧ W1.cell? ⟨B, 5, none⟩ = some (.bool m.ft) ∧ W1.frozen? ⟨B, 0, none⟩ = false ∧ W1.frozen? ⟨B, 1, none⟩ = false ∧ W1.frozen? ⟨B, 2, none⟩ = false ∧ W1.frozen? ⟨B, 3, none⟩ = false ∧ W1.frozen? ⟨B, 4, none⟩ = false ∧ W1.frozen? ⟨B, 5, none⟩ = false ∧ W1.frozen? ⟨B + 1 + 1, 0, none⟩ = false ∧ W1.frozen? ⟨B + 1 + 1, 1, none⟩ = false ∧ W1.frozen? ⟨B + 1 + 1, 2, none⟩ = false ∧ W1.frozen? ⟨B + 1 + 1, 3, none⟩ = false ∧ W1.frozen? ⟨B + 1 + 1, 4, none⟩ = false ∧ W1.frozen? ⟨B + 1 + 1, 5, none⟩ = false ∧ W1.cell? ⟨B + 1 + 1, 0, none⟩ = some (.slice none 0 0) ∧ W1.cell? ⟨B + 1 + 1, 1, none⟩ = some (.int .i64 0) ∧ W1.cell? ⟨B + 1 + 1, 2, none⟩ = some (.int .i64 0) ∧ W1.cell? ⟨B + 1 + 1, 3, none⟩ = some (.int .i64 0) ∧ W1.cell? ⟨B + 1 + 1, 4, none⟩ = some (.bool false) ∧ W1.cell? ⟨B + 1 + 1, 5, none⟩ = some (.bool false) ∧ W1.cell? ⟨B + 1, 0, none⟩ = some (.int .i64 k) ∧ W1.cell? ⟨B + 1, 1, none⟩ = some (.int .i64 a) ∧ W1.cell? ⟨B + 1, 2, none⟩ = some (.int .u64 od) ∧ W1.cell? ⟨B + 1, 3, none⟩ = some (.int .u64 nx) ∧ Rd W1 (some ⟨b, o, none⟩) ys ∧ Below B w W1 ∧ B + 1 + 1 < W1.heap.size :=
    ⟨_, rfl, by go_simp, by go_simp, by go_simp, by go_simp, by go_simp, by go_simp, by go_simp, by go_simp, by go_simp, by go_simp, by go_simp, by go_simp, by go_simp, by go_simp, by go_simp, by go_simp, by go_simp, by go_simp, by go_simp, by go_simp, by go_simp, by go_simp, by go_simp, by go_simp, by go_simp, by go_simp, by go_simp, by go_simp, ((hrd.setCell (fun ad h => by cases h; simp; omega) _).setCell (fun ad h => by cases h; simp; omega) _).setCell (fun ad h => by cases h; simp; omega) _, ((kb.setCell (Nat.le_refl _) _).setCell (Nat.le_refl _) _).setCell (Nat.le_refl _) _, by simpa using hz2⟩
  rw [hW1]
  clear hW1
  have hzB : B < W1.heap.size := by omega
  have hzB1 : B + 1 < W1.heap.size := by omega
  go_upto_region 13 with (at_builtin; refine wpList_fresh (W0 := W1) (ys := ys) (m := n) E rfl (.tmp 51) (.tmp 53) rfl (bnew (brefl W1) _) rfl (own_empty (brefl W1) rfl) rfl (by rw [HLW.out]; simp) (hrd.alloc _) hone (by unfold maxLen; omega) (by omega) ?_; intro A8 c8 w8 own8 hb8 _)
  obtain ⟨g, rfl, hg1, hg2, hgf, hgc⟩ := own_form1 own8 (by omega)
  have hgx := hgc _ _ HUX.out
  have hgz := hgf a.toNat
  have m0 := keep_below m0 hb8
  have m1 := keep_below m1 hb8
  have m2 := keep_below m2 hb8
  have m3 := keep_below m3 hb8
  have m4 := keep_below m4 hb8
  have m5 := keep_below m5 hb8
  have y0 := keep_below y0 hb8
  have y1 := keep_below y1 hb8
  have y2 := keep_below y2 hb8
  have y3 := keep_below y3 hb8
  have y4 := keep_below y4 hb8
  have y5 := keep_below y5 hb8
  have x0 := keep_below x0 hb8
  have x1 := keep_below x1 hb8
  have x2 := keep_below x2 hb8
  have x3 := keep_below x3 hb8
  have f0 := keep_frozen f0 (by omega) hb8
  have f1 := keep_frozen f1 (by omega) hb8
  have f2 := keep_frozen f2 (by omega) hb8
  have f3 := keep_frozen f3 (by omega) hb8
  have f4 := keep_frozen f4 (by omega) hb8
  have f5 := keep_frozen f5 (by omega) hb8
  have r0 := keep_frozen r0 (by omega) hb8
  have r1 := keep_frozen r1 (by omega) hb8
  have r2 := keep_frozen r2 (by omega) hb8
  have r3 := keep_frozen r3 (by omega) hb8
  have r4 := keep_frozen r4 (by omega) hb8
  have r5 := keep_frozen r5 (by omega) hb8
  have kb8 : Below B w w8 := kb.trans (hb8.mono (by omega))
  have hz8 : B + 1 + 1 < g := by omega
  have hy8 : B < w8.heap.size := by omega
  have hy81 : B + 1 < w8.heap.size := by omega
  have hy82 : B + 1 + 1 < w8.heap.size := by omega
  have hgB : B < g := by omega
  have hgB1 : B + 1 < g := by omega
  have HO := Lib.hid (own_put own8 a.toNat (.int .u64 nx))
  clear hgc hgf hrd kb own8 hb8
  go_upto_region 16 with (fail)
  obtain ⟨W9, hW9, m0, m1, m2, m3, m4, m5, f0, f1, f2, f3, f4, f5, r0, r1, r2, r3, r4, r5, y0, y1, y2, y3, y4, y5, x0, x1, x2, x3, own9, kb9, hz9⟩ : ∃ W9, ((w8.setCell ⟨g, a.toNat, none⟩ (.int .u64 nx)).setCell ⟨B, 0, none⟩ (.slice (some ⟨g, 0, none⟩) n c8)).setCell ⟨B, 2, none⟩ (.int .i64 (m.wr + 1)) = W9 ∧ W9.cell? ⟨B, 0, none⟩ = some (.slice (some ⟨g, 0, none⟩) n c8) ∧ W9.cell? ⟨B, 1, none⟩ = some (.int .i64 (m.ac + 1)) ∧ W9.cell? ⟨B, 2, none⟩ = some (.int .i64 (m.wr + 1)) ∧ W9.cell? ⟨B, 3, none⟩ = some (.int .i64 a) ∧ W9.cell? ⟨B, 4, none⟩ = some (.bool true) ∧ W9.cell? ⟨B, 5, none⟩ = some (.bool m.ft) ∧ W9.frozen? ⟨B, 0, none⟩ = false ∧ W9.frozen? ⟨B, 1, none⟩ = false ∧ W9.frozen? ⟨B, 2, none⟩ = false ∧ W9.frozen? ⟨B, 3, none⟩ = false ∧ W9.frozen? ⟨B, 4, none⟩ = false ∧ W9.frozen? ⟨B, 5, none⟩ = false ∧ W9.frozen? ⟨B + 1 + 1, 0, none⟩ = false ∧ W9.frozen? ⟨B + 1 + 1, 1, none⟩ = false ∧ W9.frozen? ⟨B + 1 + 1, 2, none⟩ = false ∧ W9.frozen? ⟨B + 1 + 1, 3, none⟩ = false ∧ W9.frozen? ⟨B + 1 + 1, 4, none⟩ = false ∧ W9.frozen? ⟨B + 1 + 1, 5, none⟩ = false ∧ W9.cell? ⟨B + 1 + 1, 0, none⟩ = some (.slice none 0 0) ∧ W9.cell? ⟨B + 1 + 1, 1, none⟩ = some (.int .i64 0) ∧ W9.cell? ⟨B + 1 + 1, 2, none⟩ = some (.int .i64 0) ∧ W9.cell? ⟨B + 1 + 1, 3, none⟩ = some (.int .i64 0) ∧ W9.cell? ⟨B + 1 + 1, 4, none⟩ = some (.bool false) ∧ W9.cell? ⟨B + 1 + 1, 5, none⟩ = some (.bool false) ∧ W9.cell? ⟨B + 1, 0, none⟩ = some (.int .i64 k) ∧ W9.cell? ⟨B + 1, 1, none⟩ = some (.int .i64 a) ∧ W9.cell? ⟨B + 1, 2, none⟩ = some (.int .u64 od) ∧ W9.cell? ⟨B + 1, 3, none⟩ = some (.int .u64 nx) ∧ W9.ownsRow (B + 1 + 1 + 1) 24 1 (.slice (some ⟨g, 0, none⟩) n c8) n (ys.set a.toNat (.int .u64 nx)) ∧ Below B w W9 ∧ B + 1 + 1 < W9.heap.size :=
    ⟨_, rfl, by go_simp, by go_simp, by go_simp, by go_simp, by go_simp, by go_simp, by go_simp, by go_simp, by go_simp, by go_simp, by go_simp, by go_simp, by go_simp, by go_simp, by go_simp, by go_simp, by go_simp, by go_simp, by go_simp, by go_simp, by go_simp, by go_simp, by go_simp, by go_simp, by go_simp, by go_simp, by go_simp, by go_simp, ownsRow_setCell_below (a := ⟨B, 2, none⟩) (ownsRow_setCell_below (a := ⟨B, 0, none⟩) (own_base HO.out (by omega)) (by simp; omega) _) (by simp; omega) _, ((kb8.setCell (by simp; omega) _).setCell (Nat.le_refl _) _).setCell (Nat.le_refl _) _, by simp; omega⟩
  rw [hW9]
  clear hW9
  clear kb8 HO hgx hgz
  have hzB9 : B < W9.heap.size := by omega
  have hzB91 : B + 1 < W9.heap.size := by omega
  have hq0 : B ≠ B + 1 + 1 := by omega
  have hq1 : B + 1 ≠ B + 1 + 1 := by omega
  have hX := @ExtK.cell (B + 1 + 1) W9
  have hzz0 := block_lt_of_cell m0
  have hzz1 := block_lt_of_cell x0
  refine wp_region_noPanic ?_
  refine wp_region_tree (fun w' => ∃ x : ExtK (B + 1 + 1) W9, w' = x.w) (PT.one [0, 1, 2, 3] 4 (PT.fin [5, 6])) (by kernel_rfl) (by kernel_rfl) (by kernel_rfl) (fun _ _ _ _ _ h => h) ⟨⟨_, (Keeps.refl _ W9).drew⟩, rfl⟩ ?_
  refine wpTree_one ?_
  simp only [pickOps, List.getElem?_cons_succ, List.getElem?_cons_zero, Option.elim_some]
  repeat (go_big_quiet_step (fail))
  refine wpQuiet_nil ?_
  refine planAct_some (fun K hK => ?_)
  go_simp
  refine hK.out _ _ (extk_mem (by repeat (first | (with_reducible exact (Keeps.refl _ W9).drew) | (with_reducible exact Keeps.refl _ _) | (with_reducible refine keepq_set ?_) | (with_reducible refine keepq_drew ?_)))) ?_
  clear hK K
  refine wpTree_fin ?_
  simp only [pickOps, List.getElem?_cons_succ, List.getElem?_cons_zero, Option.elim_some]
  repeat (go_big_quiet_step (fail))
  refine wpQuiet_nil ?_
  refine NoPanic.normal ?_
  clear hX hzz0 hzz1
  go_wp2
  refine bodyPost_ret (v := .tuple #[.agg #[.slice (some ⟨g, 0, none⟩) n c8, .int .i64 (m.ac + 1), .int .i64 (m.wr + 1), .int .i64 a, .bool true, .bool m.ft], .int .u64 0, .bool true]) (by simp [results, Try.results20, go_sem, y0, y1, y2, y3, y4, y5]) rfl ⟨some ⟨g, 0, none⟩, c8, by rw [HNN.out], ?_, ?_⟩
  · rw [HNN.out, HWS.out, HBB.out]
    refine own_base (base := B + 1 + 1 + 1) ?_ (by omega)
    repeat (first | (with_reducible exact own9) | (with_reducible refine own_drew ?_) | (with_reducible refine ownsRow_setCell_below ?_ (by simp <;> omega) _))
  · rw [HBB.out]
    repeat (first | (with_reducible exact kb9) | (with_reducible refine Below.setCell ?_ (by simp <;> omega) _) | (with_reducible refine Below.drew ?_) | (with_reducible refine below_drewN ?_ _))
end Go.Proofs.Ytkfdikbmcleaoaa
