/- A memory of words: its plain steps, and the contracts of the program's methods. -/
import Derived.Test.YtkfdikbmcleaoaaCopy
import Derived.Test.YtkfdikbmcleaoaaPlan
import Derived.Test.YtkfdikbmcleaoaaProg
namespace Go.Proofs.Ytkfdikbmcleaoaa
set_option linter.unusedVariables false
set_option linter.unusedSimpArgs false
open Go.RowKit

structure Mem where
  ws : List Int
  (ac wr la : Int)
  (nm ft : Bool)
structure MOp where
  (k a old nx : Int)

/-- An access that is out of place; one that is in place. -/
def Mem.out (m : Mem) : Mem := { m with ac := m.ac + 1, ft := true }
def Mem.hit (m : Mem) (a : Int) : Mem := { m with ac := m.ac + 1, la := a, nm := true }
def Mem.put (m : Mem) (k : Nat) (x : Int) : Mem := { m with ws := m.ws.set k x, wr := m.wr + 1 }

/-- Blocks p and g are the memory m. -/
structure MBox (w : World) (p g : Nat) (m : Mem) : Prop where
  b : Blk w p 51 #[.slice (some ⟨g, 0, none⟩) m.ws.length m.ws.length, .int .i64 m.ac, .int .i64 m.wr, .int .i64 m.la, .bool m.nm, .bool m.ft]
  r : Blk w g 24 (m.ws.map uc).toArray
def SS (p g : Nat) : Nat → Prop := fun x => x = p ∨ x = g
section
variable {w w' : World} {p g : Nat} {m : Mem}
theorem MBox.ne (h : MBox w p g m) : p ≠ g := h.b.ne_ h.r (by decide)
theorem MBox.drew (h : MBox w p g m) : MBox w.drew p g m := ⟨h.b, h.r⟩
theorem MBox.below (h : MBox w p g m) (hb : Below w.heap.size w w') : MBox w' p g m := ⟨h.b.below_ hb, h.r.below_ hb⟩
theorem MBox.c0 (h : MBox w p g m) : w.cell? ⟨p, 0, none⟩ = some (.slice (some ⟨g, 0, none⟩) m.ws.length m.ws.length) := h.b.cell 0
theorem MBox.c1 (h : MBox w p g m) : w.cell? ⟨p, 1, none⟩ = some (.int .i64 m.ac) := h.b.cell 1
theorem MBox.c2 (h : MBox w p g m) : w.cell? ⟨p, 2, none⟩ = some (.int .i64 m.wr) := h.b.cell 2
theorem MBox.c3 (h : MBox w p g m) : w.cell? ⟨p, 3, none⟩ = some (.int .i64 m.la) := h.b.cell 3
theorem MBox.c4 (h : MBox w p g m) : w.cell? ⟨p, 4, none⟩ = some (.bool m.nm) := h.b.cell 4
theorem MBox.c5 (h : MBox w p g m) : w.cell? ⟨p, 5, none⟩ = some (.bool m.ft) := h.b.cell 5
theorem MBox.word (h : MBox w p g m) {k : Nat} {x : Int} (hx : m.ws[k]? = some x) : w.cell? ⟨g, k, none⟩ = some (.int .u64 x) := by
  rw [h.r.cell]
  simp [hx, uc]
theorem MBox.far (h : MBox w p g m) {q o : Nat} (h1 : q ≠ p) (h2 : q ≠ g) (u : Value) : MBox (w.setCell ⟨q, o, none⟩ u) p g m := ⟨h.b.far (fun e => h1 e.symm) u, h.r.far (fun e => h2 e.symm) u⟩
theorem MBox.out_ (h : MBox w p g m) : MBox ((w.setCell ⟨p, 1, none⟩ (.int .i64 (m.ac + 1))).setCell ⟨p, 5, none⟩ (.bool true)) p g m.out :=
  ⟨by simpa [Mem.out] using (h.b.set_ 1 (.int .i64 (m.ac + 1))).set_ 5 (.bool true), (h.r.far (p := ⟨p, 1, none⟩) h.ne.symm _).far (p := ⟨p, 5, none⟩) h.ne.symm _⟩
theorem MBox.hit_ (h : MBox w p g m) (a : Int) : MBox (((w.setCell ⟨p, 1, none⟩ (.int .i64 (m.ac + 1))).setCell ⟨p, 3, none⟩ (.int .i64 a)).setCell ⟨p, 4, none⟩ (.bool true)) p g (m.hit a) :=
  ⟨by simpa [Mem.hit] using ((h.b.set_ 1 (.int .i64 (m.ac + 1))).set_ 3 (.int .i64 a)).set_ 4 (.bool true), ((h.r.far (p := ⟨p, 1, none⟩) h.ne.symm _).far (p := ⟨p, 3, none⟩) h.ne.symm _).far (p := ⟨p, 4, none⟩) h.ne.symm _⟩
theorem MBox.put_ (h : MBox w p g m) (k : Nat) (x : Int) : MBox ((w.setCell ⟨g, k, none⟩ (.int .u64 x)).setCell ⟨p, 2, none⟩ (.int .i64 (m.wr + 1))) p g (m.put k x) :=
  ⟨by simpa [Mem.put] using (h.b.far (p := ⟨g, k, none⟩) h.ne _).set_ 2 (.int .i64 (m.wr + 1)), by
    have := (h.r.set_ k (.int .u64 x)).far (p := ⟨p, 2, none⟩) h.ne.symm (.int .i64 (m.wr + 1))
    simpa [Mem.put, uc, List.map_set] using this⟩
theorem keeps_p (p g o : Nat) (v : Value) {a : World} (h : Keeps (SS p g) a w) : Keeps (SS p g) a (w.setCell ⟨p, o, none⟩ v) := h.setCell (fun _ => .inl rfl) v
theorem keeps_g (p g o : Nat) (v : Value) {a : World} (h : Keeps (SS p g) a w) : Keeps (SS p g) a (w.setCell ⟨g, o, none⟩ v) := h.setCell (fun _ => .inr rfl) v
end


set_option maxHeartbeats 4000000 in
set_option maxRecDepth 100000 in
theorem at_out {w : World} {p g : Nat} {m : Mem} (h : MBox w p g m) (hl : m.ws.length ≤ 4096) (h1 : 0 ≤ m.ac) (h2 : m.ac ≤ 100000) (a : Int) (ho : a < 0 ∨ (m.ws.length : Int) ≤ a) :
    Calls Try.prog 21 #[.pointer (some ⟨p, 0, none⟩), .int .i64 a] w fun e w' => e = .returned (.bool false) ∧ MBox w' p g m.out ∧ Keeps (SS p g) w w' := by
  have k0 := h.c0; have k1 := h.c1; have k5 := h.c5
  have f1 := h.b.frozen 1; have f5 := h.b.frozen 5
  have HO := Lib.hid h.out_
  have HK : Hid (Keeps (SS p g) w ((w.setCell ⟨p, 1, none⟩ (.int .i64 (m.ac + 1))).setCell ⟨p, 5, none⟩ (.bool true))) := keeps_p _ _ _ _ (keeps_p _ _ _ _ (Keeps.refl _ w))
  clear h
  generalize m.ws.length = n at *
  rcases ho with ho | ho
  · go_enter Try.func21, Try.ntmps21
    go_wp2
    go_ret
    exact ⟨rfl, HO.out, HK.out⟩
  · have t1 : decide (a < 0) = false := decide_eq_false (by omega)
    go_enter Try.func21, Try.ntmps21
    go_wp2
    go_ret
    exact ⟨rfl, HO.out, HK.out⟩
set_option maxHeartbeats 4000000 in
set_option maxRecDepth 100000 in
theorem at_in {w : World} {p g : Nat} {m : Mem} (h : MBox w p g m) (hl : m.ws.length ≤ 4096) (h1 : 0 ≤ m.ac) (h2 : m.ac ≤ 100000) (a : Int) (ha : 0 ≤ a) (hb : a < (m.ws.length : Int)) :
    Calls Try.prog 21 #[.pointer (some ⟨p, 0, none⟩), .int .i64 a] w fun e w' => e = .returned (.bool true) ∧ MBox w' p g (m.hit a) ∧ Keeps (SS p g) w w' := by
  have k0 := h.c0; have k1 := h.c1; have k3 := h.c3; have k4 := h.c4
  have f1 := h.b.frozen 1; have f3 := h.b.frozen 3; have f4 := h.b.frozen 4
  have HO := Lib.hid (h.hit_ a)
  have HK : Hid (Keeps (SS p g) w (((w.setCell ⟨p, 1, none⟩ (.int .i64 (m.ac + 1))).setCell ⟨p, 3, none⟩ (.int .i64 a)).setCell ⟨p, 4, none⟩ (.bool true))) := keeps_p _ _ _ _ (keeps_p _ _ _ _ (keeps_p _ _ _ _ (Keeps.refl _ w)))
  have t1 : decide (a < 0) = false := decide_eq_false (by omega)
  clear h
  generalize m.ws.length = n at *
  have t2 : decide ((n : Int) ≤ a) = false := decide_eq_false (by omega)
  go_enter Try.func21, Try.ntmps21
  go_wp2
  go_ret
  exact ⟨rfl, HO.out, HK.out⟩
theorem at_nil (a : Int) (w : World) : Calls Try.prog 21 #[.pointer none, .int .i64 a] w fun e w' => e = .returned (.bool false) ∧ w = w' := by
  go_enter Try.func21, Try.ntmps21
  go_wp2
  go_ret
  exact ⟨rfl, rfl⟩

set_option maxHeartbeats 4000000 in
set_option maxRecDepth 100000 in
theorem load_out {w : World} {p g : Nat} {m : Mem} (h : MBox w p g m) (hl : m.ws.length ≤ 4096) (h1 : 0 ≤ m.ac) (h2 : m.ac ≤ 100000) (h3 : 0 ≤ m.wr) (h4 : m.wr ≤ 100000) (a : Int) (ho : a < 0 ∨ (m.ws.length : Int) ≤ a) :
    Calls Try.prog 9 #[.pointer (some ⟨p, 0, none⟩), .int .i64 a] w fun e w' => e = .returned (.int .u64 0) ∧ MBox w' p g m.out ∧ Keeps (SS p g) w w' := by
  have hat := at_out h hl h1 h2 a ho
  clear h
  go_enter Try.func9, Try.ntmps9
  go_wp2_with fail
  refine hat.mono ?_
  rintro e w1 ⟨rfl, hm, hk⟩
  go_wp2
  go_ret
  exact ⟨rfl, hm, hk⟩
set_option maxHeartbeats 4000000 in
set_option maxRecDepth 100000 in
theorem load_in {w : World} {p g : Nat} {m : Mem} (h : MBox w p g m) (hl : m.ws.length ≤ 4096) (h1 : 0 ≤ m.ac) (h2 : m.ac ≤ 100000) (h3 : 0 ≤ m.wr) (h4 : m.wr ≤ 100000) (a : Int) (ha : 0 ≤ a) {x : Int} (hx : m.ws[a.toNat]? = some x) :
    Calls Try.prog 9 #[.pointer (some ⟨p, 0, none⟩), .int .i64 a] w fun e w' => e = .returned (.int .u64 x) ∧ MBox w' p g (m.hit a) ∧ Keeps (SS p g) w w' := by
  have hlt := (List.getElem?_eq_some_iff.1 hx).1
  have hat := at_in h hl h1 h2 a ha (by omega)
  clear h
  go_enter Try.func9, Try.ntmps9
  go_wp2_with fail
  refine hat.mono ?_
  rintro e w1 ⟨rfl, hm, hk⟩
  have k0 := hm.c0
  have kx := hm.word (k := a.toNat) (x := x) hx
  have hlw : (m.hit a).ws.length = m.ws.length := rfl
  rw [hlw] at k0
  generalize m.ws.length = n at *
  have b1 : a < (n : Int) := by omega
  clear hx hlw
  go_wp2
  go_ret
  exact ⟨rfl, hm, hk⟩
theorem load_nil (a : Int) (w : World) : Calls Try.prog 9 #[.pointer none, .int .i64 a] w fun e w' => e = .returned (.int .u64 0) ∧ w = w' := by
  go_enter Try.func9, Try.ntmps9
  go_wp2_with (go_at_call 21; refine (at_nil _ _).mono ?_; rintro e w1 ⟨rfl, rfl⟩)
  go_ret
  exact ⟨rfl, rfl⟩
set_option maxHeartbeats 4000000 in
set_option maxRecDepth 100000 in
theorem store_out {w : World} {p g : Nat} {m : Mem} (h : MBox w p g m) (hl : m.ws.length ≤ 4096) (h1 : 0 ≤ m.ac) (h2 : m.ac ≤ 100000) (h3 : 0 ≤ m.wr) (h4 : m.wr ≤ 100000) (a : Int) (nx : Int) (ho : a < 0 ∨ (m.ws.length : Int) ≤ a) :
    Calls Try.prog 8 #[.pointer (some ⟨p, 0, none⟩), .int .i64 a, .int .u64 nx] w fun e w' => e = .returned (.tuple #[]) ∧ MBox w' p g m.out ∧ Keeps (SS p g) w w' := by
  have hat := at_out h hl h1 h2 a ho
  clear h
  go_enter Try.func8, Try.ntmps8
  go_wp2_with fail
  refine hat.mono ?_
  rintro e w1 ⟨rfl, hm, hk⟩
  go_wp2
  go_end0
  exact ⟨rfl, hm, hk⟩
set_option maxHeartbeats 4000000 in
set_option maxRecDepth 100000 in
theorem store_in {w : World} {p g : Nat} {m : Mem} (h : MBox w p g m) (hl : m.ws.length ≤ 4096) (h1 : 0 ≤ m.ac) (h2 : m.ac ≤ 100000) (h3 : 0 ≤ m.wr) (h4 : m.wr ≤ 100000) (a : Int) (nx : Int) (ha : 0 ≤ a) (hb : a < (m.ws.length : Int)) :
    Calls Try.prog 8 #[.pointer (some ⟨p, 0, none⟩), .int .i64 a, .int .u64 nx] w fun e w' => e = .returned (.tuple #[]) ∧ MBox w' p g ((m.hit a).put a.toNat nx) ∧ Keeps (SS p g) w w' := by
  have hat := at_in h hl h1 h2 a ha hb
  obtain ⟨y, hy⟩ : ∃ y, m.ws[a.toNat]? = some y := ⟨_, List.getElem?_eq_getElem (by omega)⟩
  clear h
  go_enter Try.func8, Try.ntmps8
  go_wp2_with fail
  refine hat.mono ?_
  rintro e w1 ⟨rfl, hm, hk⟩
  have k0 := hm.c0
  have k2 := hm.c2
  have kx := hm.word (k := a.toNat) (x := y) hy
  have f2 := hm.b.frozen 2
  have fx := hm.r.frozen a.toNat
  have HP := Lib.hid (hm.put_ a.toNat nx)
  have HN := Lib.hid (keeps_p p g 2 (.int .i64 ((m.hit a).wr + 1)) (keeps_g p g a.toNat (.int .u64 nx) hk))
  have hne := hm.ne
  have hlw : (m.hit a).ws.length = m.ws.length := rfl
  have hwr : (m.hit a).wr = m.wr := rfl
  rw [hlw] at k0
  rw [hwr] at k2 HN HP
  generalize m.ws.length = n at *
  generalize m.wr = r at *
  clear hy hlw hm hk hat
  go_wp2
  go_end0
  exact ⟨rfl, HP.out, HN.out⟩

theorem store_nil (a nx : Int) (w : World) : Calls Try.prog 8 #[.pointer none, .int .i64 a, .int .u64 nx] w fun e w' => e = .returned (.tuple #[]) ∧ w = w' := by
  go_enter Try.func8, Try.ntmps8
  go_wp2_with (go_at_call 21; refine (at_nil _ _).mono ?_; rintro e w1 ⟨rfl, rfl⟩)
  go_end0
  exact ⟨rfl, rfl⟩
theorem cas_nil (a od nx : Int) (w : World) : Calls Try.prog 10 #[.pointer none, .int .i64 a, .int .u64 od, .int .u64 nx] w fun e w' => e = .returned (.bool false) ∧ w = w' := by
  go_enter Try.func10, Try.ntmps10
  go_wp2_with (go_at_call 21; refine (at_nil _ _).mono ?_; rintro e w1 ⟨rfl, rfl⟩)
  go_ret
  exact ⟨rfl, rfl⟩
set_option maxHeartbeats 4000000 in
set_option maxRecDepth 100000 in
theorem cas_out {w : World} {p g : Nat} {m : Mem} (h : MBox w p g m) (hl : m.ws.length ≤ 4096) (h1 : 0 ≤ m.ac) (h2 : m.ac ≤ 100000) (h3 : 0 ≤ m.wr) (h4 : m.wr ≤ 100000) (a : Int) (od nx : Int) (ho : a < 0 ∨ (m.ws.length : Int) ≤ a) :
    Calls Try.prog 10 #[.pointer (some ⟨p, 0, none⟩), .int .i64 a, .int .u64 od, .int .u64 nx] w fun e w' => e = .returned (.bool false) ∧ MBox w' p g m.out ∧ Keeps (SS p g) w w' := by
  have hat := at_out h hl h1 h2 a ho
  clear h
  go_enter Try.func10, Try.ntmps10
  go_wp2_with fail
  refine hat.mono ?_
  rintro e w1 ⟨rfl, hm, hk⟩
  go_wp2
  go_ret
  exact ⟨rfl, hm, hk⟩
set_option maxHeartbeats 4000000 in
set_option maxRecDepth 100000 in
theorem cas_no {w : World} {p g : Nat} {m : Mem} (h : MBox w p g m) (hl : m.ws.length ≤ 4096) (h1 : 0 ≤ m.ac) (h2 : m.ac ≤ 100000) (h3 : 0 ≤ m.wr) (h4 : m.wr ≤ 100000) (a : Int) (od nx : Int) (ha : 0 ≤ a) {x : Int} (hx : m.ws[a.toNat]? = some x) (hne : x ≠ od) :
    Calls Try.prog 10 #[.pointer (some ⟨p, 0, none⟩), .int .i64 a, .int .u64 od, .int .u64 nx] w fun e w' => e = .returned (.bool false) ∧ MBox w' p g (m.hit a) ∧ Keeps (SS p g) w w' := by
  have hlt := (List.getElem?_eq_some_iff.1 hx).1
  have hat := at_in h hl h1 h2 a ha (by omega)
  have t1 : (x != od) = true := by simpa using hne
  clear h
  go_enter Try.func10, Try.ntmps10
  go_wp2_with fail
  refine hat.mono ?_
  rintro e w1 ⟨rfl, hm, hk⟩
  have k0 := hm.c0
  have kx := hm.word (k := a.toNat) (x := x) hx
  have hlw : (m.hit a).ws.length = m.ws.length := rfl
  rw [hlw] at k0
  generalize m.ws.length = n at *
  have b1 : a < (n : Int) := by omega
  clear hx hlw hne
  go_wp2
  go_ret
  exact ⟨rfl, hm, hk⟩
set_option maxHeartbeats 4000000 in
set_option maxRecDepth 100000 in
theorem cas_yes {w : World} {p g : Nat} {m : Mem} (h : MBox w p g m) (hl : m.ws.length ≤ 4096) (h1 : 0 ≤ m.ac) (h2 : m.ac ≤ 100000) (h3 : 0 ≤ m.wr) (h4 : m.wr ≤ 100000) (a : Int) (od nx : Int) (ha : 0 ≤ a) (hy : m.ws[a.toNat]? = some od) :
    Calls Try.prog 10 #[.pointer (some ⟨p, 0, none⟩), .int .i64 a, .int .u64 od, .int .u64 nx] w fun e w' => e = .returned (.bool true) ∧ MBox w' p g ((m.hit a).put a.toNat nx) ∧ Keeps (SS p g) w w' := by
  have hb := (List.getElem?_eq_some_iff.1 hy).1
  have hat := at_in h hl h1 h2 a ha (by omega)
  have t1 : (od != od) = false := by simp
  clear h
  go_enter Try.func10, Try.ntmps10
  go_wp2_with fail
  refine hat.mono ?_
  rintro e w1 ⟨rfl, hm, hk⟩
  have k0 := hm.c0
  have k2 := hm.c2
  have kx := hm.word (k := a.toNat) (x := od) hy
  have f2 := hm.b.frozen 2
  have fx := hm.r.frozen a.toNat
  have HP := Lib.hid (hm.put_ a.toNat nx)
  have HN := Lib.hid (keeps_p p g 2 (.int .i64 ((m.hit a).wr + 1)) (keeps_g p g a.toNat (.int .u64 nx) hk))
  have hne := hm.ne
  have hlw : (m.hit a).ws.length = m.ws.length := rfl
  have hwr : (m.hit a).wr = m.wr := rfl
  rw [hlw] at k0
  rw [hwr] at k2 HN HP
  generalize m.ws.length = n at *
  generalize m.wr = r at *
  have b1 : a < (n : Int) := by omega
  clear hy hlw hm hk hat
  go_wp2
  go_ret
  exact ⟨rfl, HP.out, HN.out⟩

theorem accesses_any {w : World} {p g : Nat} {m : Mem} (h : MBox w p g m) : Calls Try.prog 15 #[.pointer (some ⟨p, 0, none⟩)] w fun e w' => e = .returned (.int .i64 m.ac) ∧ w = w' := by
  have k := h.c1
  clear h
  go_enter Try.func15, Try.ntmps15
  go_wp2
  go_ret
  exact ⟨rfl, rfl⟩
theorem accesses_nil (w : World) : Calls Try.prog 15 #[.pointer none] w fun e w' => e = .returned (.int .i64 0) ∧ w = w' := by
  go_enter Try.func15, Try.ntmps15
  go_wp2
  go_ret
  exact ⟨rfl, rfl⟩

theorem writes_any {w : World} {p g : Nat} {m : Mem} (h : MBox w p g m) : Calls Try.prog 12 #[.pointer (some ⟨p, 0, none⟩)] w fun e w' => e = .returned (.int .i64 m.wr) ∧ w = w' := by
  have k := h.c2
  clear h
  go_enter Try.func12, Try.ntmps12
  go_wp2
  go_ret
  exact ⟨rfl, rfl⟩
theorem writes_nil (w : World) : Calls Try.prog 12 #[.pointer none] w fun e w' => e = .returned (.int .i64 0) ∧ w = w' := by
  go_enter Try.func12, Try.ntmps12
  go_wp2
  go_ret
  exact ⟨rfl, rfl⟩

theorem fault_any {w : World} {p g : Nat} {m : Mem} (h : MBox w p g m) : Calls Try.prog 11 #[.pointer (some ⟨p, 0, none⟩)] w fun e w' => e = .returned (.bool m.ft) ∧ w = w' := by
  have k := h.c5
  clear h
  go_enter Try.func11, Try.ntmps11
  go_wp2
  go_ret
  exact ⟨rfl, rfl⟩
theorem fault_nil (w : World) : Calls Try.prog 11 #[.pointer none] w fun e w' => e = .returned (.bool false) ∧ w = w' := by
  go_enter Try.func11, Try.ntmps11
  go_wp2
  go_ret
  exact ⟨rfl, rfl⟩

set_option maxHeartbeats 4000000 in
set_option maxRecDepth 100000 in
theorem last_any {w : World} {p g : Nat} {m : Mem} (h : MBox w p g m) : Calls Try.prog 14 #[.pointer (some ⟨p, 0, none⟩)] w fun e w' => e = .returned (.tuple #[.int .i64 m.la, .bool m.nm]) ∧ Below w.heap.size w w' := by
  have k3 := h.c3
  have k4 := h.c4
  have hz := block_lt_of_cell k3
  clear h
  go_enter Try.func14, Try.ntmps14
  go_wp2_with fail
  go_quiet (fail)
  go_wp2
  go_ret2
  exact ⟨rfl, below_drewN (brefl w) _⟩
theorem last_nil (w : World) : Calls Try.prog 14 #[.pointer none] w fun e w' => e = .returned (.tuple #[.int .i64 0, .bool false]) ∧ w = w' := by
  go_enter Try.func14, Try.ntmps14
  go_wp2
  go_ret2
  exact ⟨rfl, rfl⟩
end Go.Proofs.Ytkfdikbmcleaoaa
