/- A line's words are read one by one. -/
import Derived.Test.YtjjgngccgjpnaaaGreatDoorTxtF
import Derived.Test.YtjjgngccgjpnaaaGreatDoorScrP
namespace Go.Proofs.YtjjgngccgjpnaaaGreatDoor
set_option linter.unusedVariables false
set_option linter.unusedSimpArgs false
open Go.RowKit

abbrev Wd := List (List UInt8)
/-- A reader of the words ws, of which k are read. -/
structure RBd (w : World) (rb gw : Nat) (ws : Wd) (k : Nat) : Prop where
  b : Blk w rb 70 #[.slice (some ⟨gw, 0, none⟩) ws.length ws.length, .int .i64 k]
  g : Blk w gw 9 (ws.map fun l => Value.string (bstr l)).toArray
  k : k ≤ ws.length
  n : ws.length ≤ 1000001
  l : ∀ x, x ∈ ws → x.length ≤ 1000000
def PanW (e : Ending) : Prop := e = .panicked [{ v := .iface 114 (.agg #[]), recovered := false }]
theorem RBd.keeps {w w' : World} {rb gw : Nat} {ws : Wd} {k : Nat} {S : Nat → Prop} (h : RBd w rb gw ws k) (hk : Keeps S w w') (h1 : ¬ S rb) (h2 : ¬ S gw) : RBd w' rb gw ws k := ⟨hk.blk h.b h1, hk.blk h.g h2, h.k, h.n, h.l⟩
theorem RBd.below {w w' : World} {rb gw : Nat} {ws : Wd} {k : Nat} (h : RBd w rb gw ws k) (hb : Below w.heap.size w w') : RBd w' rb gw ws k := ⟨h.b.below_ hb, h.g.below_ hb, h.k, h.n, h.l⟩
theorem RBd.ne {w : World} {rb gw : Nat} {ws : Wd} {k : Nat} (h : RBd w rb gw ws k) : rb ≠ gw := Blk.ne_ h.b h.g (by decide)
set_option maxHeartbeats 4000000 in
set_option maxRecDepth 100000 in
theorem word_some {w : World} {rb gw : Nat} {ws : Wd} {k : Nat} {x : List UInt8} (h : RBd w rb gw ws k) (hx : ws[k]? = some x) : Calls Tryz.prog 56 #[.pointer (some ⟨rb, 0, none⟩)] w fun e w' => e = .returned (.string (bstr x)) ∧ RBd w' rb gw ws (k + 1) ∧ Keeps (fun b => b = rb) w w' := by
  have hlt : k < ws.length := (List.getElem?_eq_some_iff.1 hx).1
  have hn := h.n
  have hne := h.ne
  have x0 := h.b.cell 0
  have x1 := h.b.cell 1
  have f1 := h.b.frozen 1
  have z0 := h.b.lt
  have zg := h.g.lt
  have xk : w.cell? ⟨gw, k, none⟩ = some (.string (bstr x)) := h.g.cell_ (by rw [List.getElem?_toArray, List.getElem?_map, hx]; rfl)
  have HH := Lib.hid h
  obtain ⟨n, hn'⟩ : ∃ n, ws.length = n := ⟨_, rfl⟩
  rw [hn'] at hlt hn x0
  have HN := Lib.hid hn'
  have t0 : decide (n ≤ k) = false := decide_eq_false (by omega)
  have t0' : decide ((n : Int) ≤ (k : Int)) = false := decide_eq_false (by omega)
  have c1 : IntKind.i64.wrap ((k : Int) + 1) = (k : Int) + 1 := IntWalk.i64_in _ (by omega)
  have c2 : IntKind.i64.wrap ((k : Int) + 1 - 1) = (k : Int) := by rw [IntWalk.i64_in _ (by omega)]; omega
  have HX := Lib.hid hx.symm
  clear h hx hn'
  go_enter Tryz.func56, Tryz.ntmps56
  go_upto_region 1 with fail
  go_quiet (fail)
  obtain ⟨W1, hW1, y1, g1, zz⟩ : ∃ W1, w.drewN nq = W1 ∧ W1.cell? ⟨rb, 1, none⟩ = some (.int .i64 (k : Int)) ∧ W1.frozen? ⟨rb, 1, none⟩ = false ∧ rb < W1.heap.size := ⟨_, rfl, x1, f1, z0⟩
  have HW1 := Lib.hid hW1
  rw [hW1]
  clear hW1
  go_upto_region 4 with fail
  obtain ⟨V, hV, u0, u1, uk, zv, zg', HR, HK⟩ : ∃ V, W1.setCell ⟨rb, 1, none⟩ (.int .i64 ((k : Int) + 1)) = V ∧ V.cell? ⟨rb, 0, none⟩ = some (.slice (some ⟨gw, 0, none⟩) n n) ∧ V.cell? ⟨rb, 1, none⟩ = some (.int .i64 ((k : Int) + 1)) ∧ V.cell? ⟨gw, k, none⟩ = some (.string (bstr x)) ∧ rb < V.heap.size ∧ gw < V.heap.size ∧ RBd V rb gw ws (k + 1) ∧ Keeps (fun b => b = rb) w V := by
    have hb0 : Blk W1 rb 70 #[.slice (some ⟨gw, 0, none⟩) ws.length ws.length, .int .i64 (k : Int)] := by rw [← HW1.out]; exact HH.out.b.drewN _
    have hg0 : Blk W1 gw 9 (ws.map fun l => Value.string (bstr l)).toArray := by rw [← HW1.out]; exact HH.out.g.drewN _
    have hb1 := hb0.set_ 1 (.int .i64 ((k : Int) + 1))
    have hg1 := hg0.far (p := ⟨rb, 1, none⟩) (fun e => hne e.symm) (.int .i64 ((k : Int) + 1))
    have kk : Keeps (fun b => b = rb) w W1 := by rw [← HW1.out]; exact (Keeps.refl _ w).drewN _
    refine ⟨_, rfl, ?_, hb1.cell 1, hg1.cell_ (by rw [List.getElem?_toArray, List.getElem?_map, ← HX.out]; rfl), hb1.lt, hg1.lt, ⟨hb1, hg1, by rw [HN.out]; omega, HH.out.n, HH.out.l⟩, kk.setCell (p := ⟨rb, 1, none⟩) (fun _ => rfl) _⟩
    rw [← HN.out]
    exact hb1.cell 0
  rw [hV]
  have HR := Lib.hid HR
  have HK := Lib.hid HK
  clear hV HH HX y1 g1 zz x0 x1 f1 z0 zg xk HW1 HN
  have i0 : (0 : Int) ≤ (k : Int) := by omega
  have i1 : (k : Int) < (n : Int) := by omega
  go_quiet (fail)
  go_wp2_with fail
  go_ret
  exact ⟨rfl, HR.out.keeps ((Keeps.refl (fun _ => False) V).drewN _) (fun q => q) (fun q => q), HK.out.drewN _⟩
theorem word_none {w : World} {rb gw : Nat} {ws : Wd} {k : Nat} (h : RBd w rb gw ws k) (hx : ws[k]? = none) : Calls Tryz.prog 56 #[.pointer (some ⟨rb, 0, none⟩)] w fun e w' => PanW e ∧ Keeps (fun b => b = rb) w w' := by
  have hlt : ws.length ≤ k := List.getElem?_eq_none_iff.1 hx
  have x0 := h.b.cell 0
  have x1 := h.b.cell 1
  have z0 := h.b.lt
  obtain ⟨n, hn'⟩ : ∃ n, ws.length = n := ⟨_, rfl⟩
  rw [hn'] at hlt x0
  have t0 : (n : Int) ≤ (k : Int) := by omega
  clear h hx hn'
  go_enter Tryz.func56, Tryz.ntmps56
  go_upto_region 1 with fail
  go_quiet (fail)
  go_wp2_with fail
  exact ⟨rfl, rfl, (Keeps.refl _ w).drewN _⟩
/-- The package variables are laid below B, and have stayed. -/
structure LVB (B : Nat) (w : World) : Prop where
  e : ∃ w0, LV w0 ∧ w0.heap.size = B ∧ Below B w0 w
theorem LVB.lv {B : Nat} {w : World} (h : LVB B w) : LV w := by
  obtain ⟨w0, h1, rfl, h3⟩ := h.e
  exact h1.below h3
theorem LVB.le {B : Nat} {w : World} (h : LVB B w) : B ≤ w.heap.size := by
  obtain ⟨w0, h1, rfl, h3⟩ := h.e
  exact h3.size
theorem LVB.bel {B : Nat} {w w' : World} (h : LVB B w) (hb : Below B w w') : LVB B w' := by
  obtain ⟨w0, h1, h2, h3⟩ := h.e
  exact ⟨w0, h1, h2, h3.trans hb⟩
theorem keeps_bel {B : Nat} {w w' : World} {S : Nat → Prop} (hk : Keeps S w w') (hB : B ≤ w.heap.size) (hS : ∀ b, S b → B ≤ b) : Below B w w' := hk.below (Below.refl B w) hB fun x h _ => hS x h
theorem LVB.keeps {B : Nat} {w w' : World} {S : Nat → Prop} (h : LVB B w) (hk : Keeps S w w') (hS : ∀ b, S b → B ≤ b) : LVB B w' := h.bel (keeps_bel hk h.le hS)
set_option maxHeartbeats 4000000 in
set_option maxRecDepth 100000 in
def numAt (ws : Wd) (k : Nat) : Option Int := (ws[k]?).bind numI
theorem rnum_some {w : World} {B rb gw : Nat} {ws : Wd} {k : Nat} {v : Int} (h : RBd w rb gw ws k) (hv : LVB B w) (hB : B ≤ rb) (hx : numAt ws k = some v) : Calls Tryz.prog 62 #[.pointer (some ⟨rb, 0, none⟩)] w fun e w' => e = .returned (.int .i64 v) ∧ RBd w' rb gw ws (k + 1) ∧ Keeps (fun b => b = rb) w w' := by
  obtain ⟨x, hwx, hn⟩ := Option.bind_eq_some_iff.1 hx
  have hw := word_some h hwx
  have hxl : x.length ≤ 1000000 := h.l x (List.mem_of_getElem? hwx)
  have HC : Hid (∀ w1, Keeps (fun b => b = rb) w w1 → Calls Tryz.prog 16 #[.string (bstr x)] w1 fun e w' => Below w1.heap.size w1 w' ∧ e = .returned (.tuple #[.int .i64 v, .bool true])) := fun w1 hk => (number_any (bstr x) hxl (hv.keeps hk (fun b e => by rw [e]; exact hB)).lv).mono fun e w' ⟨a, b⟩ => ⟨a, by
    have e1 : numI (bstr x).data.toList = some v := hn
    rw [e1] at b
    exact b⟩
  clear h hv hB hx hwx hn hxl
  go_enter Tryz.func62, Tryz.ntmps62
  go_wp2_with (first | (go_at_call 56; refine hw.mono ?_; rintro e w1 ⟨rfl, hr1, hk1⟩) | (go_at_call 16; refine (HC.out _ hk1).mono ?_; rintro e w2 ⟨hb2, rfl⟩))
  go_ret
  exact ⟨rfl, hr1.below hb2, hk1.trans_ (Keeps.of_below hb2)⟩
theorem rnum_none {w : World} {B rb gw : Nat} {ws : Wd} {k : Nat} (h : RBd w rb gw ws k) (hv : LVB B w) (hB : B ≤ rb) (hx : numAt ws k = none) : Calls Tryz.prog 62 #[.pointer (some ⟨rb, 0, none⟩)] w fun e w' => PanW e ∧ Keeps (fun b => b = rb) w w' := by
  cases hwx : ws[k]? with
  | none =>
    have hw := word_none h hwx
    clear h hv hB hx hwx
    go_enter Tryz.func62, Tryz.ntmps62
    go_wp2_with (go_at_call 56; refine hw.mono ?_; rintro e w1 ⟨rfl, hk1⟩)
    exact ⟨rfl, rfl, hk1⟩
  | some x =>
    have hn : numI x = none := by rw [numAt, hwx] at hx; exact hx
    have hw := word_some h hwx
    have hxl : x.length ≤ 1000000 := h.l x (List.mem_of_getElem? hwx)
    have HC : Hid (∀ w1, Keeps (fun b => b = rb) w w1 → Calls Tryz.prog 16 #[.string (bstr x)] w1 fun e w' => Below w1.heap.size w1 w' ∧ e = .returned (.tuple #[.int .i64 0, .bool false])) := fun w1 hk => (number_any (bstr x) hxl (hv.keeps hk (fun b e => by rw [e]; exact hB)).lv).mono fun e w' ⟨a, b⟩ => ⟨a, by
      have e1 : numI (bstr x).data.toList = none := hn
      rw [e1] at b
      exact b⟩
    clear h hv hB hx hwx hn hxl
    go_enter Tryz.func62, Tryz.ntmps62
    go_wp2_with (first | (go_at_call 56; refine hw.mono ?_; rintro e w1 ⟨rfl, hr1, hk1⟩) | (go_at_call 16; refine (HC.out _ hk1).mono ?_; rintro e w2 ⟨hb2, rfl⟩))
    exact ⟨rfl, rfl, hk1.trans_ (Keeps.of_below hb2)⟩

set_option maxHeartbeats 4000000 in
set_option maxRecDepth 100000 in
def bitAt (ws : Wd) (k : Nat) : Option Nat := (ws[k]?).bind numU
theorem rbit_some {w : World} {B rb gw : Nat} {ws : Wd} {k : Nat} {v : Nat} (h : RBd w rb gw ws k) (hv : LVB B w) (hB : B ≤ rb) (hx : bitAt ws k = some v) : Calls Tryz.prog 91 #[.pointer (some ⟨rb, 0, none⟩)] w fun e w' => e = .returned (.int .u64 v) ∧ RBd w' rb gw ws (k + 1) ∧ Keeps (fun b => b = rb) w w' := by
  obtain ⟨x, hwx, hn⟩ := Option.bind_eq_some_iff.1 hx
  have hw := word_some h hwx
  have hxl : x.length ≤ 1000000 := h.l x (List.mem_of_getElem? hwx)
  have HC : Hid (∀ w1, Keeps (fun b => b = rb) w w1 → Calls Tryz.prog 18 #[.string (bstr x)] w1 fun e w' => Below w1.heap.size w1 w' ∧ e = .returned (.tuple #[.int .u64 v, .bool true])) := fun w1 hk => (wbits_any (bstr x) hxl (hv.keeps hk (fun b e => by rw [e]; exact hB)).lv).mono fun e w' ⟨a, b⟩ => ⟨a, by
    have e1 : numU (bstr x).data.toList = some v := hn
    rw [e1] at b
    exact b⟩
  clear h hv hB hx hwx hn hxl
  go_enter Tryz.func91, Tryz.ntmps91
  go_wp2_with (first | (go_at_call 56; refine hw.mono ?_; rintro e w1 ⟨rfl, hr1, hk1⟩) | (go_at_call 18; refine (HC.out _ hk1).mono ?_; rintro e w2 ⟨hb2, rfl⟩))
  go_ret
  exact ⟨rfl, hr1.below hb2, hk1.trans_ (Keeps.of_below hb2)⟩
theorem rbit_none {w : World} {B rb gw : Nat} {ws : Wd} {k : Nat} (h : RBd w rb gw ws k) (hv : LVB B w) (hB : B ≤ rb) (hx : bitAt ws k = none) : Calls Tryz.prog 91 #[.pointer (some ⟨rb, 0, none⟩)] w fun e w' => PanW e ∧ Keeps (fun b => b = rb) w w' := by
  cases hwx : ws[k]? with
  | none =>
    have hw := word_none h hwx
    clear h hv hB hx hwx
    go_enter Tryz.func91, Tryz.ntmps91
    go_wp2_with (go_at_call 56; refine hw.mono ?_; rintro e w1 ⟨rfl, hk1⟩)
    exact ⟨rfl, rfl, hk1⟩
  | some x =>
    have hn : numU x = none := by rw [bitAt, hwx] at hx; exact hx
    have hw := word_some h hwx
    have hxl : x.length ≤ 1000000 := h.l x (List.mem_of_getElem? hwx)
    have HC : Hid (∀ w1, Keeps (fun b => b = rb) w w1 → Calls Tryz.prog 18 #[.string (bstr x)] w1 fun e w' => Below w1.heap.size w1 w' ∧ e = .returned (.tuple #[.int .u64 0, .bool false])) := fun w1 hk => (wbits_any (bstr x) hxl (hv.keeps hk (fun b e => by rw [e]; exact hB)).lv).mono fun e w' ⟨a, b⟩ => ⟨a, by
      have e1 : numU (bstr x).data.toList = none := hn
      rw [e1] at b
      exact b⟩
    clear h hv hB hx hwx hn hxl
    go_enter Tryz.func91, Tryz.ntmps91
    go_wp2_with (first | (go_at_call 56; refine hw.mono ?_; rintro e w1 ⟨rfl, hr1, hk1⟩) | (go_at_call 18; refine (HC.out _ hk1).mono ?_; rintro e w2 ⟨hb2, rfl⟩))
    exact ⟨rfl, rfl, hk1.trans_ (Keeps.of_below hb2)⟩

theorem rend_yes {w : World} {rb gw : Nat} {ws : Wd} {k : Nat} (h : RBd w rb gw ws k) (hx : k = ws.length) : Calls Tryz.prog 61 #[.pointer (some ⟨rb, 0, none⟩), .bool true] w fun e w' => e = .returned (.tuple #[]) ∧ Keeps (fun _ => False) w w' := by
  have x0 := h.b.cell 0
  have x1 := h.b.cell 1
  have z0 := h.b.lt
  obtain ⟨n, hn'⟩ : ∃ n, ws.length = n := ⟨_, rfl⟩
  rw [hn'] at hx x0
  subst hx
  have t0 : decide ((k : Int) < (k : Int)) = false := decide_eq_false (by omega)
  clear h hn'
  go_enter Tryz.func61, Tryz.ntmps61
  go_upto_region 0 with fail
  go_quiet (fail)
  go_wp2_with fail

  exact bodyPost_end (results_none rfl _ _ _) rfl ⟨rfl, (Keeps.refl _ w).drewN _⟩
theorem rend_no {w : World} {rb gw : Nat} {ws : Wd} {k : Nat} (h : RBd w rb gw ws k) {ok : Bool} (hx : ok = false ∨ k < ws.length) : Calls Tryz.prog 61 #[.pointer (some ⟨rb, 0, none⟩), .bool ok] w fun e w' => PanW e ∧ Keeps (fun _ => False) w w' := by
  have x0 := h.b.cell 0
  have x1 := h.b.cell 1
  have z0 := h.b.lt
  obtain ⟨n, hn'⟩ : ∃ n, ws.length = n := ⟨_, rfl⟩
  rw [hn'] at hx x0
  clear h hn'
  cases ok with
  | false =>
    clear hx
    go_enter Tryz.func61, Tryz.ntmps61
    go_upto_region 0 with fail
    go_quiet (fail)
    go_wp2_with fail
    exact ⟨rfl, rfl, (Keeps.refl _ w).drewN _⟩
  | true =>
    have t0 : (k : Int) < (n : Int) := by rcases hx with q | q; cases q; omega
    clear hx
    go_enter Tryz.func61, Tryz.ntmps61
    go_upto_region 0 with fail
    go_quiet (fail)
    go_wp2_with fail
    exact ⟨rfl, rfl, (Keeps.refl _ w).drewN _⟩
def W4 : Array Value := #[.string ⟨#[112, 105, 99, 107]⟩, .string ⟨#[115, 116, 97, 108, 108]⟩, .string ⟨#[119, 97, 107, 101]⟩, .string ⟨#[107, 105, 108, 108]⟩]
theorem twords_any {w : World} : Calls Tryz.prog 58 #[] w fun e w' => e = .returned (.agg W4) ∧ Below w.heap.size w w' := by
  go_enter Tryz.func58, Tryz.ntmps58
  go_wp2_with fail
  exact bodyPost_ret (v := .agg W4) (results_cell_row rfl _ _ w.heap.size 109 _ _ _ rfl (Blk.new w 109 W4) Tryz.underlying109 rfl (by kernel_rfl)) rfl ⟨rfl, bnew (brefl w) _⟩
/-- A thread that there is, by its word. -/
def thrAt (th : Int) (ws : Wd) (k : Nat) : Option Int := (numAt ws k).bind fun t => if 0 ≤ t ∧ t < th then some t else none
theorem thr_some {w : World} {B rb gw tb : Nat} {ws : Wd} {k : Nat} {th v : Int} (h : RBd w rb gw ws k) (hv : LVB B w) (hB : B ≤ rb) (ht : w.cell? ⟨tb, 1, none⟩ = some (.int .i64 th)) (hne : tb ≠ rb) (hx : thrAt th ws k = some v) : Calls Tryz.prog 60 #[.pointer (some ⟨tb, 0, none⟩), .pointer (some ⟨rb, 0, none⟩)] w fun e w' => e = .returned (.int .i64 v) ∧ RBd w' rb gw ws (k + 1) ∧ Keeps (fun b => b = rb) w w' := by
  obtain ⟨t, hn, hi⟩ := Option.bind_eq_some_iff.1 hx
  have hc := rnum_some h hv hB hn
  by_cases hq : 0 ≤ t ∧ t < th
  · rw [if_pos hq] at hi
    cases hi
    obtain ⟨h1, h2⟩ := hq
    have t0 : decide (v < 0) = false := decide_eq_false (by omega)
    have t1 : decide (th ≤ v) = false := decide_eq_false (by omega)
    clear h hv hB hx hn
    go_enter Tryz.func60, Tryz.ntmps60
    go_wp2_with (go_at_call 62; refine hc.mono ?_; rintro e w1 ⟨rfl, hr1, hk1⟩; have y1 := hk1.cell ht hne; have z1 := block_lt_of_cell y1)
    go_ret
    exact ⟨rfl, hr1, hk1⟩
  · rw [if_neg hq] at hi
    cases hi
theorem thr_none {w : World} {B rb gw tb : Nat} {ws : Wd} {k : Nat} {th : Int} (h : RBd w rb gw ws k) (hv : LVB B w) (hB : B ≤ rb) (ht : w.cell? ⟨tb, 1, none⟩ = some (.int .i64 th)) (hne : tb ≠ rb) (hx : thrAt th ws k = none) : Calls Tryz.prog 60 #[.pointer (some ⟨tb, 0, none⟩), .pointer (some ⟨rb, 0, none⟩)] w fun e w' => PanW e ∧ Keeps (fun b => b = rb) w w' := by
  cases hn : numAt ws k with
  | none =>
    have hc := rnum_none h hv hB hn
    clear h hv hB hx hn
    go_enter Tryz.func60, Tryz.ntmps60
    go_wp2_with (go_at_call 62; refine hc.mono ?_; rintro e w1 ⟨rfl, hk1⟩)
    exact ⟨rfl, rfl, hk1⟩
  | some t =>
    have hc := rnum_some h hv hB hn
    have hq : ¬ (0 ≤ t ∧ t < th) := fun q => by rw [thrAt, hn, Option.bind_some, if_pos q] at hx; cases hx
    by_cases h0 : t < 0
    · clear h hv hB hx hn hq
      go_enter Tryz.func60, Tryz.ntmps60
      go_wp2_with (go_at_call 62; refine hc.mono ?_; rintro e w1 ⟨rfl, hr1, hk1⟩)
      exact ⟨rfl, rfl, hk1⟩
    · have t0 : decide (t < 0) = false := decide_eq_false h0
      have t1 : th ≤ t := by omega
      clear h hv hB hx hn hq
      go_enter Tryz.func60, Tryz.ntmps60
      go_wp2_with (go_at_call 62; refine hc.mono ?_; rintro e w1 ⟨rfl, hr1, hk1⟩; have y1 := hk1.cell ht hne; have z1 := block_lt_of_cell y1)
      exact ⟨rfl, rfl, hk1⟩
/-- The operation that a word names. -/
def opG : Nat → Nat → ByteArray → Option Nat
  | 0, _, _ => none
  | g + 1, k, s => if opL.getD k ⟨#[]⟩ = s then some k else opG g (k + 1) s
def opOf (s : ByteArray) : Option Nat := opG 13 0 s
def OpR (w : World) (x : Option Nat) (e : Ending) (w' : World) : Prop := e = .returned (.tuple #[.int .i64 ((x.getD 0 : Nat) : Int), .bool x.isSome]) ∧ Below w.heap.size w w'
set_option maxHeartbeats 4000000 in
set_option maxRecDepth 100000 in
theorem op_any {w : World} (s : ByteArray) : Calls Tryz.prog 90 #[.string s] w (OpR w (opOf s)) := by
  have hix : Hid (∀ (k : Nat), k < 13 → ∀ w : World, (Instr.index 144 (.agg W13) (.int .i64 (k : Int))).run Tryz.prog w = .ok (.string (opL.getD k ⟨#[]⟩)) w) := fun k hk w => by
    rcases (by omega : k = 0 ∨ k = 1 ∨ k = 2 ∨ k = 3 ∨ k = 4 ∨ k = 5 ∨ k = 6 ∨ k = 7 ∨ k = 8 ∨ k = 9 ∨ k = 10 ∨ k = 11 ∨ k = 12) with rfl | rfl | rfl | rfl | rfl | rfl | rfl | rfl | rfl | rfl | rfl | rfl | rfl <;> kernel_rfl
  have hw := cwords_any (w := w)
  obtain ⟨V, hV⟩ : ∃ V, W13 = V := ⟨_, rfl⟩
  rw [hV] at hw hix
  clear hV
  go_enter Tryz.func90, Tryz.ntmps90
  go_wp2_with (go_at_call 83; refine hw.mono ?_; rintro e w1 ⟨rfl, hb1⟩)
  go_loopg [7] 13 (fun gk s7 wr => ∃ (k : Nat), k + gk = 13 ∧ s7 = .int .i64 k ∧ wr = w1 ∧ Hid (opOf s = opG gk k s))
  case atStart => exact ⟨0, by omega, rfl, rfl, rfl⟩
  case round =>
    obtain ⟨k, hk, rfl, rfl, ho⟩ := hrel
    by_cases hlt : k < 13
    · obtain ⟨g, rfl⟩ : ∃ g, gk = g + 1 := ⟨gk - 1, by omega⟩
      have hx := hix.out k hlt
      have i0 : (0 : Int) ≤ (k : Int) := by omega
      have i1 : (k : Int) < 13 := by omega
      obtain ⟨S, hS⟩ : ∃ S, opL.getD k ⟨#[]⟩ = S := ⟨_, rfl⟩
      rw [hS] at hx
      by_cases hq : S = s
      · subst hq
        have HO : Hid (opOf S = some k) := by rw [Hid, ho.out, opG, if_pos hS]
        clear ho hS
        go_wp2_with fail
        go_ret2
        exact ⟨by rw [HO.out]; rfl, hb1⟩
      · have HO : Hid (opOf s = opG g (k + 1) s) := by rw [Hid, ho.out, opG, if_neg (by rw [hS]; exact hq)]
        have t1 := str_ne hq
        have ck : IntKind.i64.wrap ((k : Int) + 1) = (k : Int) + 1 := IntWalk.i64_in _ (by omega)
        clear ho hS hq
        go_wp2_with fail
        go_roundg g
        case measure => omega
        case rel => exact ⟨k + 1, by omega, by go_num, rfl, HO⟩
    · obtain rfl : k = 13 := by omega
      obtain rfl : gk = 0 := by omega
      have HO : Hid (opOf s = none) := ho
      clear ho
      go_wp2_with fail
      go_ret2
      exact ⟨by rw [HO.out]; rfl, hb1⟩
end Go.Proofs.YtjjgngccgjpnaaaGreatDoor
