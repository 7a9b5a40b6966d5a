/- The script of bytes. -/
import Derived.Test.YtknngjdcbldmgaaDoorSctE
import Derived.Test.YtknngjdcbldmgaaDoorSctF
namespace Go.Proofs.YtknngjdcbldmgaaDoor
set_option linter.unusedVariables false
set_option linter.unusedSimpArgs false
open Go.RowKit

def TakeR (w : World) (x : Except Int Scr) (e : Ending) (w' : World) : Prop := Below w.heap.size w w' ∧ match x with
  | .error n => ∃ ev, e = .returned (.tuple #[.agg (scc cf0 nil8 (.slice none 0 0)).toArray, ev]) ∧ ErrAt w' ev n
  | .ok s => ∃ us EA ec, e = .returned (.tuple #[.agg (scc s.c us (.slice EA s.es.length ec)).toArray, .nilIface]) ∧ PIn (fun b => b < w.heap.size) w' us s.ps ∧ Sl enc_ w' EA s.es.length ec s.es ∧ (∀ ad, EA = some ad → w.heap.size ≤ ad.block) ∧ (∀ l, l ∈ s.ps → l.length ≤ 40) ∧ s.es.length ≤ 60000
theorem pCalls_code : ∀ (n : Nat) (l : List Int) (m : Int), pCalls n l = .error m → m ≠ 0
  | 0, l, m, h => by cases h
  | n + 1, l, m, h => by
    rw [pCalls] at h
    split at h
    · injection h with h; omega
    · split at h
      · injection h with h; omega
      · split at h
        · cases h
        · next e hq =>
          injection h with h
          subst h
          exact pCalls_code n _ _ hq
theorem pProg_code {l : List Int} {m : Int} (h : pProg l = .error m) : m ≠ 0 := by
  match l, h with
  | [], h => injection h with h; omega
  | x :: t, h =>
    rw [pProg] at h
    split at h
    · injection h with h; omega
    · exact pCalls_code _ _ _ h
theorem pEnts_code (c : Cf) : ∀ (l : List Int) (es : List En) (m : Int), pEnts c es l = .error m → m ≠ 0
  | [], es, m, h => by rw [pEnts] at h; cases h
  | x :: t, es, m, h => by
    rw [pEnts] at h
    split at h
    · injection h with h; omega
    · split at h
      · exact pEnts_code c t _ m h
      · injection h with h; omega
theorem pProgs_code : ∀ (g k : Nat) (ps : List (List CV)) (l : List Int) (m : Int), pProgs g k ps l = .error m → m ≠ 0
  | 0, k, ps, l, m, h => by rw [pProgs] at h; cases h
  | g + 1, k, ps, l, m, h => by
    rw [pProgs] at h
    split at h
    · next e hq =>
      injection h with h
      subst h
      exact pProg_code hq
    · exact pProgs_code g _ _ _ m h
theorem pScript_code {l : List Int} {m : Int} (h : pScript l = .error m) : m ≠ 0 := by
  rw [pScript] at h
  split at h
  · injection h with h; omega
  · split at h
    · injection h with h; omega
    · cases hp : pProgs (confL l).th.toNat 0 nilP (l.drop 16) with
      | error e =>
        rw [hp] at h
        injection h with h
        subst h
        exact pProgs_code _ _ _ _ _ hp
      | ok y =>
        obtain ⟨ps, r⟩ := y
        rw [hp] at h
        cases he : pEnts (confL l) [] r with
        | error e =>
          rw [pEnd, he] at h
          injection h with h
          subst h
          exact pEnts_code _ _ _ _ he
        | ok es =>
          rw [pEnd, he] at h
          cases h
theorem results_two {fn : Func} {p1 p2 : Tmp} {tmps : Array Value} {w : World} {a b : Nat} {cs : Array Value} {v : Value} (h : fn.results = #[.cell p1 29, .cell p2 33]) (h1 : tmps.getD p1 undef = .pointer (some ⟨a, 0, none⟩)) (h2 : tmps.getD p2 undef = .pointer (some ⟨b, 0, none⟩)) (ha : Blk w a 29 cs) (hs : (Tryd.prog.info? 29).map (·.size) = some cs.size) (hb : Blk w b 33 #[v]) : (results fn tmps).run Tryd.prog w = .ok (.tuple #[.agg cs, v]) w := by
  have h1' : tmps[p1]?.getD undef = .pointer (some ⟨a, 0, none⟩) := by simpa using h1
  have h2' : tmps[p2]?.getD undef = .pointer (some ⟨b, 0, none⟩) := by simpa using h2
  have hc := hb.cell 0
  have hl := run_loadVar_row w a 29 29 cs (0, 0) _ ha Tryd.underlying29 rfl hs
  have hl2 : (loadVar 33 ⟨b, 0, none⟩).run Tryd.prog w = .ok v w := by simp [go_sem, hc]
  simp [results, h, h1', h2', asAddr, hl, hl2]
set_option maxHeartbeats 4000000 in
set_option maxRecDepth 100000 in
theorem stake_any {w : World} {A : Option Addr} {n c : Nat} {l : List Int} (hS : Sl b8l w A n c l) (hb : ∀ x, x ∈ l → 0 ≤ x ∧ x < 256) (hl : l.length ≤ 900000) : Calls Tryd.prog 18 #[.slice A n c] w (TakeR w (pScript l)) := by
  have hmf : ∀ (fn : Fn) (first cap : Array Value) (w : World), (Instr.makeFunc fn first cap).run Tryd.prog w = .ok (.func fn first cap) w := fun _ _ _ _ => rfl
  obtain ⟨a, ha⟩ : ∃ a, w.heap.size = a := ⟨_, rfl⟩
  have hA : l ≠ [] → ∀ ad, A = some ad → ad.block < w.heap.size := fun hne => hS.rd.lt (by
    intro q
    have := congrArg List.length q
    rw [flat_len b8l_len] at this
    simp at this
    exact hne this)
  have HS := Lib.hid hS
  have HA := Lib.hid hA
  clear hS hA
  obtain ⟨W0, hW0, A0, B0, k0⟩ : ∃ W0, (w.alloc (.cells #[.int .i64 0, .int .i64 0, .int .i64 0, .int .i64 0, .int .i64 0, .int .i64 0, .int .i64 0, .int .i64 0, .int .i64 0, .int .i64 0, .int .i64 0, .int .i64 0, .int .i64 0, .int .i64 0, .slice none 0 0, .slice none 0 0, .slice none 0 0, .slice none 0 0, .slice none 0 0, .slice none 0 0, .slice none 0 0, .slice none 0 0, .slice none 0 0] 29)).alloc (.cells #[.nilIface] 33) = W0 ∧ Blk W0 w.heap.size 29 #[.int .i64 0, .int .i64 0, .int .i64 0, .int .i64 0, .int .i64 0, .int .i64 0, .int .i64 0, .int .i64 0, .int .i64 0, .int .i64 0, .int .i64 0, .int .i64 0, .int .i64 0, .int .i64 0, .slice none 0 0, .slice none 0 0, .slice none 0 0, .slice none 0 0, .slice none 0 0, .slice none 0 0, .slice none 0 0, .slice none 0 0, .slice none 0 0] ∧ Blk W0 (w.heap.size + 1) 33 #[.nilIface] ∧ Below w.heap.size w W0 := ⟨_, rfl, (Blk.new _ _ _).alloc _, by have := Blk.new (w.alloc (.cells #[.int .i64 0, .int .i64 0, .int .i64 0, .int .i64 0, .int .i64 0, .int .i64 0, .int .i64 0, .int .i64 0, .int .i64 0, .int .i64 0, .int .i64 0, .int .i64 0, .int .i64 0, .int .i64 0, .slice none 0 0, .slice none 0 0, .slice none 0 0, .slice none 0 0, .slice none 0 0, .slice none 0 0, .slice none 0 0, .slice none 0 0, .slice none 0 0] 29)) 33 #[.nilIface]; rwa [World.size_alloc] at this, bnew (bnew (brefl w) _) _⟩
  go_enter_defers Tryd.func18, Tryd.ntmps18
  go_upto_region 2 with (fail)
  obtain ⟨W1, hW1, C1, A1, B1, k1, z1⟩ : ∃ W1, W0.alloc (.cells #[.slice A n c] 78) = W1 ∧ Blk W1 (a + 2) 78 #[.slice A n c] ∧ Blk W1 a 29 #[.int .i64 0, .int .i64 0, .int .i64 0, .int .i64 0, .int .i64 0, .int .i64 0, .int .i64 0, .int .i64 0, .int .i64 0, .int .i64 0, .int .i64 0, .int .i64 0, .int .i64 0, .int .i64 0, .slice none 0 0, .slice none 0 0, .slice none 0 0, .slice none 0 0, .slice none 0 0, .slice none 0 0, .slice none 0 0, .slice none 0 0, .slice none 0 0] ∧ Blk W1 (a + 1) 33 #[.nilIface] ∧ Below w.heap.size w W1 ∧ W1.heap.size = a + 3 ∧ W0.heap.size = a + 2 := by
    have z0 : W0.heap.size = a + 2 := by rw [← hW0, ← ha]; simp
    have h1 := Blk.new W0 78 #[.slice A n c]
    rw [z0] at h1
    rw [ha] at A0 B0
    exact ⟨_, rfl, h1, A0.alloc _, B0.alloc _, bnew k0 _, by simp [z0], z0⟩
  obtain ⟨z1, z0⟩ := z1
  have hR : RB W1 (a + 3) (a + 2) l := ⟨A, n, c, C1, HS.out.below k1, fun hne ad e => by have := HA.out hne ad e; omega, hb, by omega⟩
  have hsc := script_any hR hl (by omega)
  have HB0 := Lib.hid A1
  have HB1 := Lib.hid B1
  clear A0 B0 C1 A1 B1
  cases hx : pScript l with
  | error m =>
    have hm0 := pScript_code hx
    have HE := Lib.hid hx
    rw [hx] at hsc
    have hc1 : Calls Tryd.prog 38 #[.pointer (some ⟨a + 2, 0, none⟩)] W1 fun e w' => Keeps (fun b => b = a + 2) W1 w' ∧ Pan m e := hsc
    clear hsc hx hR
    go_wp2_with (go_at_call 38; refine hc1.mono ?_; rintro e w2 ⟨k2, rfl⟩)
    refine leaves_cons (f := 37) (args := #[.pointer (some ⟨a, 0, none⟩), .pointer (some ⟨a + 1, 0, none⟩)]) (by simp) (by simp [go_sem]) ?_
    refine (catch_pan (a := a) (b := a + 1) m [] hm0 (k2.blk HB0.out (by omega)) (k2.blk HB1.out (by omega)) (by omega)).mono ?_
    rintro e u' w3 ⟨rfl, rfl, ev, E1, E2, E3, k3⟩
    have kb : Below w.heap.size w w3 := k3.below (k2.below k1 (by omega) (fun x e _ => by omega)) (by have := k2.size; omega) (fun x e _ => by rcases e with e | e <;> omega)
    have HX : TakeR w (.error m) (.returned (.tuple #[.agg #[.int .i64 0, .int .i64 0, .int .i64 0, .int .i64 0, .int .i64 0, .int .i64 0, .int .i64 0, .int .i64 0, .int .i64 0, .int .i64 0, .int .i64 0, .int .i64 0, .int .i64 0, .int .i64 0, .slice none 0 0, .slice none 0 0, .slice none 0 0, .slice none 0 0, .slice none 0 0, .slice none 0 0, .slice none 0 0, .slice none 0 0, .slice none 0 0], ev])) w3 := ⟨kb, ev, rfl, E3⟩
    exact ⟨_, results_two (p1 := 2) (p2 := 3) (a := a) (b := a + 1) Tryd.results18 rfl rfl E1 (by kernel_rfl) E2, HX⟩
  | ok s =>
    rw [hx] at hsc
    have HE := Lib.hid hx
    have hc1 : Calls Tryd.prog 38 #[.pointer (some ⟨a + 2, 0, none⟩)] W1 fun e w' => Keeps (fun b => b = a + 2) W1 w' ∧ ∃ us EA ec, e = .returned (.agg (scc s.c us (.slice EA s.es.length ec)).toArray) ∧ PIn (fun b => b < W1.heap.size) w' us s.ps ∧ Sl enc_ w' EA s.es.length ec s.es ∧ (∀ ad, EA = some ad → W1.heap.size ≤ ad.block) ∧ (∀ l, l ∈ s.ps → l.length ≤ 40) ∧ s.es.length ≤ 60000 := hsc
    clear hsc hx hR
    obtain ⟨en, hen⟩ : ∃ en, s.es.length = en := ⟨_, rfl⟩
    rw [hen] at hc1
    have HEN := Lib.hid hen
    clear hen
    have tok1 : True := trivial
    go_wp2_with (first | (go_at_call 38; refine hc1.mono ?_; rintro e w2 ⟨k2, us, EA, ec, rfl, P2, S2, h3, h4, h5⟩; have h8 := P2.u8; have hi := info_scc (c := s.c) (us := us) (ev := .slice EA en ec) h8; have hold : (#[.int .i64 0, .int .i64 0, .int .i64 0, .int .i64 0, .int .i64 0, .int .i64 0, .int .i64 0, .int .i64 0, .int .i64 0, .int .i64 0, .int .i64 0, .int .i64 0, .int .i64 0, .int .i64 0, .slice none 0 0, .slice none 0 0, .slice none 0 0, .slice none 0 0, .slice none 0 0, .slice none 0 0, .slice none 0 0, .slice none 0 0, .slice none 0 0] : Array Value).size = (scc s.c us (.slice EA en ec)).toArray.size := (by show 23 = _; rw [List.size_toArray, scc_len h8]); have hone := scc_one (c := s.c) P2 EA en ec; obtain ⟨cs, hcs⟩ : ∃ cs, scc s.c us (.slice EA en ec) = cs := ⟨_, rfl⟩; rw [hcs] at hi hold hone; rw [hcs]; have HCS := Lib.hid hcs; clear hcs; have D0 := k2.blk HB0.out (by omega); have D1 := k2.blk HB1.out (by omega); have D2 := (keeps_row w2 a cs.toArray).blk D1 (by omega); have y0 := D2.cell 0; have f0 := D2.frozen 0; have z2 := D2.lt) | (have _t := tok1; refine wpList_store_row (o := ⟨none, .store 29 (.tmp 2) (.tmp 8), _, _, _, _⟩) rfl 29 (.tmp 2) (.tmp 8) rfl a _ rfl rfl 29 _ D0 hi hold hone ?_; clear tok1 _t))
    refine leaves_cons (u := .returning) (f := 37) (args := #[.pointer (some ⟨a, 0, none⟩), .pointer (some ⟨a + 1, 0, none⟩)]) (by simp) (by simp [go_sem]) ?_
    refine (catch_idle (a := a) (b := a + 1)).mono ?_
    rintro e u' w3 ⟨rfl, rfl, rfl⟩
    have kr := keeps_row w2 a cs.toArray
    have k4 := (Keeps.refl (fun b => b = a + 1) (w2.setRow a cs.toArray)).setCell (p := ⟨a + 1, 0, none⟩) (fun _ => rfl) .nilIface
    have z2' := k2.size
    have kb2 : Below w.heap.size w w2 := k2.below k1 (by omega) (fun x e _ => by omega)
    have kb3 := kr.below kb2 (by omega) (fun x e _ => by omega)
    have kb4 := k4.below kb3 (by have := kr.size; omega) (fun x e _ => by omega)
    have E1 : Blk ((w2.setRow a cs.toArray).setCell ⟨a + 1, 0, none⟩ .nilIface) a 29 cs.toArray := (D0.row cs.toArray).far (p := ⟨a + 1, 0, none⟩) (by show a ≠ a + 1; omega) _
    have E2 := D2.set_ 0 .nilIface
    have HX : TakeR w (.ok s) (.returned (.tuple #[.agg cs.toArray, .nilIface])) ((w2.setRow a cs.toArray).setCell ⟨a + 1, 0, none⟩ .nilIface) := by
      refine ⟨kb4, us, EA, ec, by rw [HEN.out, HCS.out], ?_, ?_, fun ad e => by have := h3 ad e; omega, h4, by rw [HEN.out]; exact h5⟩
      · exact ((P2.keeps (kr.mono (S' := fun b => b < W1.heap.size) (fun b e _ => by have e' : b = a := e; show b < _; omega))).keeps (k4.mono (S' := fun b => b < W1.heap.size) (fun b e _ => by have e' : b = a + 1 := e; show b < _; omega))).weak (fun b h => by have h' : b < w.heap.size := h; show b < W1.heap.size; omega)
      · rw [HEN.out]
        exact k4.sl (kr.sl S2 (fun ad e h => by have := h3 ad e; have h' : ad.block = a := h; omega)) (fun ad e h => by have := h3 ad e; have h' : ad.block = a + 1 := h; omega)
    rw [← HE.out] at HX
    exact ⟨_, results_two (p1 := 2) (p2 := 3) (a := a) (b := a + 1) Tryd.results18 rfl rfl E1 hi E2, HX⟩
end Go.Proofs.YtknngjdcbldmgaaDoor
