/- The script of a text: text.Take. -/
import Derived.Test.YtjjgngccgjpnaaaGreatDoorTxtP
namespace Go.Proofs.YtjjgngccgjpnaaaGreatDoor
set_option linter.unusedVariables false
set_option linter.unusedSimpArgs false
open Go.RowKit

theorem keeps_row (w : World) (g : Nat) (cs : Array Value) : Keeps (fun b => b = g) w (w.setRow g cs) :=
  ⟨(grown_setRow w g cs).os, (grown_setRow w g cs).tape, (grown_setRow w g cs).output, (grown_setRow w g cs).size, fun b hb hn => (grown_setRow w g cs).block b hb (fun e => hn (by injection e))⟩
theorem Blk.row {w : World} {g : Nat} {t : TypeId} {cs : Array Value} (h : Blk w g t cs) (cs' : Array Value) : Blk (w.setRow g cs') g t cs' := setRow_heap w g _ _ t _ h
theorem ErrAt.row {w : World} {a : Nat} {v : Value} {n : Int} {cs : Array Value} (h : ErrAt w v n) (ha : Blk w a 30 #[.int .i64 0, .int .i64 0, .int .i64 0, .int .i64 0, .int .i64 0, .int .i64 0, .int .i64 0, .int .i64 0, .int .i64 0, .int .i64 0, .int .i64 0, .int .i64 0, .int .i64 0, .int .i64 0, .slice none 0 0, .slice none 0 0, .slice none 0 0, .slice none 0 0, .slice none 0 0, .slice none 0 0, .slice none 0 0, .slice none 0 0, .slice none 0 0]) : ErrAt (w.setRow a cs) v n := by
  rcases h with h | ⟨h1, p, h2, h3⟩
  · exact .inl h
  · refine .inr ⟨h1, p, h2, (keeps_row w a cs).cell h3 fun e => ?_⟩
    have e' : p = a := e
    subst e'
    have := (ha.cell 3).symm.trans h3
    simp at this
theorem results_three {fn : Func} {p q1 q2 : Tmp} {tmps : Array Value} {w : World} {a : Nat} {cs : Array Value} {x y : Value} (h : fn.results = #[.cell p 30, .tmp q1, .tmp q2]) (h1 : tmps.getD p undef = .pointer (some ⟨a, 0, none⟩)) (h2 : tmps.getD q1 undef = x) (h3 : tmps.getD q2 undef = y) (ha : Blk w a 30 cs) (hs : (Tryz.prog.info? 30).map (·.size) = some cs.size) : (results fn tmps).run Tryz.prog w = .ok (.tuple #[.agg cs, x, y]) w := by
  have h1' : tmps[p]?.getD undef = .pointer (some ⟨a, 0, none⟩) := by simpa using h1
  have h2' : tmps[q1]?.getD undef = x := by simpa using h2
  have h3' : tmps[q2]?.getD undef = y := by simpa using h3
  have hl := run_loadVar_row w a 30 30 cs (0, 0) _ ha Tryz.underlying30 rfl hs
  simp [results, h, h1', h2', h3', asAddr, hl]
theorem OW.pin {w : World} {B : Nat} {vs : List Value} {ps : List (List CV)} (h : OW w B vs ps) : PIn (fun b => b < B) w vs ps :=
  ⟨h.u8, h.p8, fun j l hl => by
    obtain ⟨A, c, h1, h2⟩ := h.at_ j l hl
    exact ⟨A, _, c, h1, Sl.of_own cvc_len (by decide) h2, fun ad e _ q => by have := (own_block h2 ad e).2.1; omega⟩⟩
/-- What text.Take returns. -/
def TakeT (w : World) (x : Except (Nat × Int) St) (e : Ending) (w' : World) : Prop := Below w.heap.size w w' ∧ match x with
  | .error q => ∃ ev, e = .returned (.tuple #[.agg #[.int .i64 0, .int .i64 0, .int .i64 0, .int .i64 0, .int .i64 0, .int .i64 0, .int .i64 0, .int .i64 0, .int .i64 0, .int .i64 0, .int .i64 0, .int .i64 0, .int .i64 0, .int .i64 0, .slice none 0 0, .slice none 0 0, .slice none 0 0, .slice none 0 0, .slice none 0 0, .slice none 0 0, .slice none 0 0, .slice none 0 0, .slice none 0 0], .int .i64 q.1, ev]) ∧ ErrAt w' ev q.2
  | .ok s => ∃ us EA ec, e = .returned (.tuple #[.agg (scc s.c us (.slice EA s.es.length ec)).toArray, .int .i64 0, .nilIface]) ∧ PIn (fun b => b < w.heap.size) w' us s.ps ∧ Sl enc_ w' EA s.es.length ec s.es ∧ (∀ ad, EA = some ad → w.heap.size ≤ ad.block) ∧ (∀ l, l ∈ s.ps → l.length ≤ 1000000) ∧ s.es.length ≤ 1000000
theorem pTake_err {T : List UInt8} {n : Nat} (h : pLines (T.length + 1) 0 st0 T = .error n) : pTake T = .error (n, 3) := by
  unfold pTake
  rw [h]
theorem OW.nil (w : World) (B : Nat) : OW w B nil8 nil8P :=
  ⟨rfl, rfl, fun j l hl => by
    have hj : j < 8 := (List.getElem?_eq_some_iff.1 hl).1
    rcases (by omega : j = 0 ∨ j = 1 ∨ j = 2 ∨ j = 3 ∨ j = 4 ∨ j = 5 ∨ j = 6 ∨ j = 7) with rfl | rfl | rfl | rfl | rfl | rfl | rfl | rfl <;> (cases hl; exact ⟨none, 0, rfl, World.ownsRow_nil _ _ _ _⟩), fun i j v v' hij h1 h2 q hq => by
    have : v = .slice none 0 0 := by
      have := List.mem_of_getElem? h1
      simpa [nil8] using this
    subst this
    simp [Value.ownBlock] at hq⟩
theorem TK.start {w : World} {B tb : Nat} (h : Blk w tb 63 #[.int .i64 0, .int .i64 0, .int .i64 0, .int .i64 0, .int .i64 0, .int .i64 0, .int .i64 0, .int .i64 0, .int .i64 0, .int .i64 0, .int .i64 0, .int .i64 0, .int .i64 0, .int .i64 0, .slice none 0 0, .slice none 0 0, .slice none 0 0, .slice none 0 0, .slice none 0 0, .slice none 0 0, .slice none 0 0, .slice none 0 0, .slice none 0 0, .int .i64 0, .bool false, .int .i64 (-1), .int .i64 0]) (hB : B ≤ tb) : TK w B tb st0 0 :=
  ⟨⟨nil8, none, 0, h, OW.nil w B, World.ownsRow_nil _ _ _ _⟩, fun l hl => by
    have : l = [] := by simpa [st0, nil8P] using hl
    subst this
    simp, by decide, by decide, by decide, hB⟩
theorem newr_zero {w w' : World} {e : Ending} (h : NewR w 0 e w') : e = .returned .nilIface ∧ Below w.heap.size w w' := by
  obtain ⟨v, h1, h2, h3⟩ := h
  rcases h2 with ⟨_, rfl⟩ | ⟨q, _⟩
  · exact ⟨h1, h3⟩
  · exact absurd rfl q
theorem newr_pos {w w' : World} {e : Ending} {n : Int} (h : NewR w n e w') (hn : n ≠ 0) : ∃ p : Nat, e = .returned (.iface 153 (.pointer (some ⟨p, 0, none⟩))) ∧ ErrAt w' (.iface 153 (.pointer (some ⟨p, 0, none⟩))) n ∧ Below w.heap.size w w' := by
  obtain ⟨v, h1, h2, h3⟩ := h
  have h2' := h2
  rcases h2 with ⟨q, _⟩ | ⟨_, p, rfl, _⟩
  · exact absurd q hn
  · exact ⟨p, h1, h2', h3⟩
theorem tkc_scc {s : St} {vs : List Value} {ev : Value} (h : vs.length = 8) : ((tkc s vs ev).drop 0).take (scc s.c vs ev).length = scc s.c vs ev := by
  unfold tkc
  rw [List.drop_zero]
  exact List.take_left
theorem scc_one {S : Nat → Prop} {w : World} {c : Cf} {us : List Value} {ps : List (List CV)} (h : PIn S w us ps) (A : Option Addr) (m d : Nat) : (scc c us (.slice A m d)).toArray.all (·.oneCell') = true := by
  rw [Array.all_eq_true_iff_forall_mem]
  intro v hv
  have hv : v ∈ scc c us (.slice A m d) := by simpa using hv
  unfold scc at hv
  rcases List.mem_append.1 hv with hv | hv
  · unfold cfc at hv
    simp only [List.mem_cons, List.not_mem_nil, or_false] at hv
    rcases hv with rfl | rfl | rfl | rfl | rfl | rfl | rfl | rfl | rfl | rfl | rfl | rfl | rfl | rfl <;> rfl
  · rcases List.mem_append.1 hv with hv | hv
    · obtain ⟨j, hj, rfl⟩ := List.getElem_of_mem hv
      have hj8 : j < 8 := by rw [← h.u8]; exact hj
      obtain ⟨A', n', c', h1, _, _⟩ := h.at_ j _ (List.getElem?_eq_getElem (by rw [h.p8]; exact hj8))
      rw [List.getElem?_eq_getElem hj] at h1
      injection h1 with h1
      rw [h1]
      rfl
    · simp at hv
      rw [hv]
      rfl
set_option maxHeartbeats 4000000 in
set_option maxRecDepth 100000 in
theorem ttake_any {w : World} (T : List UInt8) (hT : T.length ≤ 900000) (hg : LV w) : Calls Tryz.prog 8 #[.string (bstr T)] w (TakeT w (pTake T)) := by
  have hmf : ∀ (fn : Fn) (first cap : Array Value) (w : World), (Instr.makeFunc fn first cap).run Tryz.prog w = .ok (.func fn first cap) w := fun _ _ _ _ => rfl
  obtain ⟨a, ha⟩ : ∃ a, w.heap.size = a := ⟨_, rfl⟩
  have HG := Lib.hid hg
  clear hg
  go_enter Tryz.func8, Tryz.ntmps8
  go_wp2_with (fail)
  go_step3
  go_upto_region 2 with (fail)
  obtain ⟨W0, hW0, A0, T0, P0, k0, z0⟩ : ∃ W0, ((w.alloc (.cells #[.int .i64 0, .int .i64 0, .int .i64 0, .int .i64 0, .int .i64 0, .int .i64 0, .int .i64 0, .int .i64 0, .int .i64 0, .int .i64 0, .int .i64 0, .int .i64 0, .int .i64 0, .int .i64 0, .slice none 0 0, .slice none 0 0, .slice none 0 0, .slice none 0 0, .slice none 0 0, .slice none 0 0, .slice none 0 0, .slice none 0 0, .slice none 0 0] 30)).alloc (.cells #[.int .i64 0, .int .i64 0, .int .i64 0, .int .i64 0, .int .i64 0, .int .i64 0, .int .i64 0, .int .i64 0, .int .i64 0, .int .i64 0, .int .i64 0, .int .i64 0, .int .i64 0, .int .i64 0, .slice none 0 0, .slice none 0 0, .slice none 0 0, .slice none 0 0, .slice none 0 0, .slice none 0 0, .slice none 0 0, .slice none 0 0, .slice none 0 0, .int .i64 0, .bool false, .int .i64 (-1), .int .i64 0] 63)).alloc (.cells #[.pointer (some ⟨a + 1, 0, none⟩)] 59) = W0 ∧ Blk W0 a 30 #[.int .i64 0, .int .i64 0, .int .i64 0, .int .i64 0, .int .i64 0, .int .i64 0, .int .i64 0, .int .i64 0, .int .i64 0, .int .i64 0, .int .i64 0, .int .i64 0, .int .i64 0, .int .i64 0, .slice none 0 0, .slice none 0 0, .slice none 0 0, .slice none 0 0, .slice none 0 0, .slice none 0 0, .slice none 0 0, .slice none 0 0, .slice none 0 0] ∧ Blk W0 (a + 1) 63 #[.int .i64 0, .int .i64 0, .int .i64 0, .int .i64 0, .int .i64 0, .int .i64 0, .int .i64 0, .int .i64 0, .int .i64 0, .int .i64 0, .int .i64 0, .int .i64 0, .int .i64 0, .int .i64 0, .slice none 0 0, .slice none 0 0, .slice none 0 0, .slice none 0 0, .slice none 0 0, .slice none 0 0, .slice none 0 0, .slice none 0 0, .slice none 0 0, .int .i64 0, .bool false, .int .i64 (-1), .int .i64 0] ∧ Blk W0 (a + 2) 59 #[.pointer (some ⟨a + 1, 0, none⟩)] ∧ Below w.heap.size w W0 ∧ W0.heap.size = a + 3 := by
    have h1 := Blk.new w 30 #[.int .i64 0, .int .i64 0, .int .i64 0, .int .i64 0, .int .i64 0, .int .i64 0, .int .i64 0, .int .i64 0, .int .i64 0, .int .i64 0, .int .i64 0, .int .i64 0, .int .i64 0, .int .i64 0, .slice none 0 0, .slice none 0 0, .slice none 0 0, .slice none 0 0, .slice none 0 0, .slice none 0 0, .slice none 0 0, .slice none 0 0, .slice none 0 0]
    have h2 := Blk.new (w.alloc (.cells #[.int .i64 0, .int .i64 0, .int .i64 0, .int .i64 0, .int .i64 0, .int .i64 0, .int .i64 0, .int .i64 0, .int .i64 0, .int .i64 0, .int .i64 0, .int .i64 0, .int .i64 0, .int .i64 0, .slice none 0 0, .slice none 0 0, .slice none 0 0, .slice none 0 0, .slice none 0 0, .slice none 0 0, .slice none 0 0, .slice none 0 0, .slice none 0 0] 30)) 63 #[.int .i64 0, .int .i64 0, .int .i64 0, .int .i64 0, .int .i64 0, .int .i64 0, .int .i64 0, .int .i64 0, .int .i64 0, .int .i64 0, .int .i64 0, .int .i64 0, .int .i64 0, .int .i64 0, .slice none 0 0, .slice none 0 0, .slice none 0 0, .slice none 0 0, .slice none 0 0, .slice none 0 0, .slice none 0 0, .slice none 0 0, .slice none 0 0, .int .i64 0, .bool false, .int .i64 (-1), .int .i64 0]
    have h3 := Blk.new ((w.alloc (.cells #[.int .i64 0, .int .i64 0, .int .i64 0, .int .i64 0, .int .i64 0, .int .i64 0, .int .i64 0, .int .i64 0, .int .i64 0, .int .i64 0, .int .i64 0, .int .i64 0, .int .i64 0, .int .i64 0, .slice none 0 0, .slice none 0 0, .slice none 0 0, .slice none 0 0, .slice none 0 0, .slice none 0 0, .slice none 0 0, .slice none 0 0, .slice none 0 0] 30)).alloc (.cells #[.int .i64 0, .int .i64 0, .int .i64 0, .int .i64 0, .int .i64 0, .int .i64 0, .int .i64 0, .int .i64 0, .int .i64 0, .int .i64 0, .int .i64 0, .int .i64 0, .int .i64 0, .int .i64 0, .slice none 0 0, .slice none 0 0, .slice none 0 0, .slice none 0 0, .slice none 0 0, .slice none 0 0, .slice none 0 0, .slice none 0 0, .slice none 0 0, .int .i64 0, .bool false, .int .i64 (-1), .int .i64 0] 63)) 59 #[.pointer (some ⟨a + 1, 0, none⟩)]
    simp only [World.size_alloc, ha] at h1 h2 h3
    exact ⟨_, rfl, (h1.alloc _).alloc _, h2.alloc _, h3, bnew (bnew (bnew (brefl w) _) _) _, by simp [ha]⟩
  rw [hW0]
  have HA := Lib.hid hW0
  clear hW0
  have HTK0 := TK.start T0 (B := a) (by omega)
  have hv0 : LVB a W0 := ⟨w, HG.out, ha, ha ▸ k0⟩
  go_wp2_with (fail)
  go_step3
  go_wp2_with (fail)
  clear T0
  go_loopg [0, 6] (T.length + 1) (fun gk tx nx wr => ∃ (t : List UInt8) (k : Nat) (n : Int) (s : St), tx = .string (bstr t) ∧ nx = .int .i64 n ∧ Hid (n = k) ∧ t.length < gk ∧ k + gk ≤ T.length + 1 ∧ t.length ≤ T.length ∧ Hid (k = 0 → s = st0) ∧ Hid (TK wr a (a + 1) s k) ∧ Hid (Blk wr a 30 #[.int .i64 0, .int .i64 0, .int .i64 0, .int .i64 0, .int .i64 0, .int .i64 0, .int .i64 0, .int .i64 0, .int .i64 0, .int .i64 0, .int .i64 0, .int .i64 0, .int .i64 0, .int .i64 0, .slice none 0 0, .slice none 0 0, .slice none 0 0, .slice none 0 0, .slice none 0 0, .slice none 0 0, .slice none 0 0, .slice none 0 0, .slice none 0 0]) ∧ Hid (Blk wr (a + 2) 59 #[.pointer (some ⟨a + 1, 0, none⟩)]) ∧ Below w.heap.size w wr ∧ Hid (pLines (T.length + 1) 0 st0 T = pLines gk k s t))
  case atStart => exact ⟨T, 0, 0, st0, rfl, rfl, rfl, by omega, by omega, Nat.le_refl _, fun _ => rfl, HTK0, A0, P0, k0, rfl⟩
  case round =>
    obtain ⟨t, k, n, s, rfl, rfl, hn, hlt, hkg, htl, h0, hTK, hA, hP, hb, hpl⟩ := hrel
    obtain ⟨g, rfl⟩ : ∃ g, gk = g + 1 := ⟨gk - 1, by omega⟩
    have hvr : LVB a wr := ⟨w, HG.out, ha, ha ▸ hb⟩
    have HV := Lib.hid hvr
    clear A0 P0 k0 z0 HTK0 hv0 hvr
    by_cases hx : 0 < k ∧ t = []
    · obtain ⟨hk0, rfl⟩ := hx
      have hcut := cut_none (t := []) HV.out.lv (by simp) rfl
      obtain rfl : n = (k : Int) := hn
      have t0 : (0 : Int) < (k : Int) := by omega
      obtain ⟨S0, hS0⟩ : ∃ S0, bstr [] = S0 := ⟨_, rfl⟩
      have hq : (S0.toList == []) = true := by rw [← hS0, ByteArray.toList_eq]; rfl
      have hE : Hid (pLines (T.length + 1) 0 st0 T = .ok s) := by rw [Hid, hpl.out, pLines, if_pos ⟨hk0, rfl⟩]
      rw [hS0] at hcut
      rw [hS0]
      go_wp2_with (go_at_call 22; refine hcut.mono ?_; rintro e w1 ⟨rfl, nn, rfl⟩)
      obtain ⟨W1, hW1, hT1, hA1, hP1, hb1⟩ : ∃ W1, wr.drewN nn = W1 ∧ TK W1 a (a + 1) s k ∧ Blk W1 a 30 #[.int .i64 0, .int .i64 0, .int .i64 0, .int .i64 0, .int .i64 0, .int .i64 0, .int .i64 0, .int .i64 0, .int .i64 0, .int .i64 0, .int .i64 0, .int .i64 0, .int .i64 0, .int .i64 0, .slice none 0 0, .slice none 0 0, .slice none 0 0, .slice none 0 0, .slice none 0 0, .slice none 0 0, .slice none 0 0, .slice none 0 0, .slice none 0 0] ∧ Blk W1 (a + 2) 59 #[.pointer (some ⟨a + 1, 0, none⟩)] ∧ Below w.heap.size w W1 := ⟨_, rfl, hTK.out.below (below_drewN (brefl _) _), hA.out.drewN _, hP.out.drewN _, below_drewN hb _⟩
      rw [hW1]
      clear hW1 hcut hq
      obtain ⟨vs, EA, ec, hTb, hO, hE1⟩ := hT1.e
      have h8 := hO.u8
      obtain ⟨cs, hcs⟩ : ∃ cs, scc s.c vs (.slice EA s.es.length ec) = cs := ⟨_, rfl⟩
      have r1 : W1.rangeAt (a + 1) 0 cs := hcs ▸ range_blk hTb 0 (tkc_scc h8)
      have hi : (Tryz.prog.info? 30).map (·.size) = some cs.length := by rw [← hcs, scc_len h8]; kernel_rfl
      have x0 : W1.cell? ⟨a + 1, 0, none⟩ = some (.int .i64 s.c.lv) := hTb.cell 0
      have x2 := hP1.cell 0
      have hR : ∀ w', Below W1.heap.size W1 w' → Calls Tryz.prog 30 #[.agg cs.toArray, .int .i64 (IntKind.i64.wrap (s.c.lv - 1))] w' (NewR w' (rightN s.c s.ps s.es (IntKind.i64.wrap (s.c.lv - 1)))) := fun w' h => by
        rw [← hcs]
        exact right_any (((hO.keepsT (S := fun _ => False) (Keeps.of_below h) (fun b e => e.elim)).pin).weak (fun b e => e.elim)) (Sl.of_own enc__len (by decide) ((Keeps.of_below (S := fun _ => False) h).own hE1 (fun _ _ e => e))) (by have := hT1.es; omega) (fun l hl => by have := hT1.ps l hl; omega) _
      obtain ⟨lv1, hlv⟩ : ∃ lv1, IntKind.i64.wrap (s.c.lv - 1) = lv1 := ⟨_, rfl⟩
      rw [hlv] at hR
      have hone : cs.toArray.all (·.oneCell') = true := hcs ▸ scc_one (c := s.c) hO.pin EA s.es.length ec
      have hold : (#[.int .i64 0, .int .i64 0, .int .i64 0, .int .i64 0, .int .i64 0, .int .i64 0, .int .i64 0, .int .i64 0, .int .i64 0, .int .i64 0, .int .i64 0, .int .i64 0, .int .i64 0, .int .i64 0, .slice none 0 0, .slice none 0 0, .slice none 0 0, .slice none 0 0, .slice none 0 0, .slice none 0 0, .slice none 0 0, .slice none 0 0, .slice none 0 0] : Array Value).size = cs.toArray.size := by rw [← hcs, List.size_toArray, List.size_toArray, scc_len h8]; rfl
      have hi2 : (Tryz.prog.info? 30).map (·.size) = some cs.toArray.size := by rw [List.size_toArray]; exact hi
      have HA1 := Lib.hid hA1
      have HT1 := Lib.hid hTb
      have HO := Lib.hid hO
      have HE := Lib.hid hE1
      have HCS := Lib.hid hcs
      have HTB := Lib.hid hT1
      clear hA1 hTb hO hE1 hcs hT1 hP1 h8
      cases hm : decide (rightN s.c s.ps s.es lv1 = 0) with
      | true =>
        have hm0 : rightN s.c s.ps s.es lv1 = 0 := of_decide_eq_true hm
        have hX : Hid (pTake T = .ok s) := by
          rw [Hid, pTake, hE.out]
          simp only []
          rw [hlv, if_pos hm0]
        rw [hm0] at hR
        have HR : Hid (∀ w', Below W1.heap.size W1 w' → Calls Tryz.prog 30 #[.agg cs.toArray, .int .i64 lv1] w' fun e w'' => e = .returned .nilIface ∧ Below w'.heap.size w' w'') := fun w' h => (hR w' h).mono fun e w'' q => newr_zero q
        clear hR hm hm0 hE
        go_upto_region 13 with (fail)
        have hX := @Ext.cell W1
        have hzz0 := block_lt_of_cell x0
        have hzz1 := block_lt_of_cell x2
        refine wp_region_noPanic ?_
        refine NC.wp_region_plan (fun w' => ∃ x : Ext W1, w' = x.w) [([0, 1, 2, 3, 4, 5, 6, 7, 8, 9, 10], 11)] [12] (by kernel_rfl) (by kernel_rfl) (by kernel_rfl) (fun _ _ _ _ _ h => h) ⟨⟨_, (brefl W1).drew⟩, rfl⟩ ?_
        refine NC.wpPlan_cons ?_
        simp only [NC.pickOps, List.getElem?_cons_succ, List.getElem?_cons_zero, Option.elim_some]
        go_big_quiet_step (fail)
        go_big_quiet_step (fail)
        go_big_quiet_step (fail)
        refine wpQuiet_load_mid rfl 30 (.tmp 51) rfl (a + 1) (0) rfl cs _ (range_ext r1) Tryz.underlying30 rfl hi ?_; simp only [Act.put, List.setIfInBounds_toArray, List.set_cons_succ, List.set_cons_zero]
        go_big_quiet_step (fail)
        go_big_quiet_step (fail)
        go_big_quiet_step (fail)
        go_big_quiet_step (fail)
        go_big_quiet_step (fail)
        go_big_quiet_step (fail)
        go_big_quiet_step (fail)
        refine wpQuiet_nil ?_
        refine NC.planAct_some (fun K hK => ?_)
        go_simp
        refine (HR.out _ (brefl W1).drew).mono ?_
        rintro e w2 ⟨rfl, hb2⟩; have m1 := bnext (brefl W1).drew hb2
        go_wp2_with fail
        refine hK.out _ _ ⟨⟨_, m1⟩, rfl⟩ ?_
        clear hK K
        refine NC.wpPlan_last ?_
        simp only [NC.pickOps, List.getElem?_cons_succ, List.getElem?_cons_zero, Option.elim_some]
        repeat (go_big_quiet_step (fail))
        refine wpQuiet_nil ?_
        refine NoPanic.normal ?_
        clear hX hzz0 hzz1
        have A2 := HA1.out.below_ m1
        have r2 : w2.rangeAt (a + 1) 0 cs := fun j v hj => keep_below (r1 j v hj) m1
        have x2' := keep_below x2 m1
        have tok1 : True := trivial; have tok2 : True := trivial
        go_wp2_with (first | (have _t := tok1; refine wpList_load_mid (op := ⟨some 68, _, _, _, _, _⟩) rfl 30 (.tmp 67) rfl (a + 1) (0) rfl cs _ r2 Tryz.underlying30 rfl hi ?_; clear tok1 _t) | (have _t := tok2; refine wpList_store_row (o := ⟨none, .store 30 (.tmp 2) (.tmp 68), _, _, _, _⟩) rfl 30 (.tmp 2) (.tmp 68) rfl a _ rfl rfl 30 _ A2 hi2 hold hone ?_; clear tok2 _t))
        have kr := keeps_row w2 a cs.toArray
        have hO2 := (HO.out.keepsT (S := fun _ => False) (Keeps.of_below m1) (fun b e => e.elim)).keepsT kr (fun b e _ => ⟨_, _, e ▸ A2, by decide⟩)
        have hE1 := (Keeps.of_below (S := fun _ => False) m1).own HE.out (fun _ _ e => e)
        have hE2 := kr.own hE1 (fun q hq e => by have e' : q = a := e; subst e'; exact own_ne_blk hE1 A2 (by decide) hq)
        have HX : TakeT w (pTake T) (.returned (.tuple #[.agg cs.toArray, .int .i64 0, .nilIface])) (w2.setRow a cs.toArray) := by
          rw [hX.out]
          exact ⟨kr.below (bnext hb1 m1) (by have := A2.lt; omega) (fun x e _ => by have e' : x = a := e; omega), vs, EA, ec, by rw [HCS.out], hO2.pin.weak (fun b h => by have h' : b < w.heap.size := h; show b < a; omega), Sl.of_own enc__len (by decide) hE2, fun ad e => by have := (own_block hE2 ad e).2.1; omega, fun l hl => by have := HTB.out.ps l hl; omega, by have := HTB.out.es; omega⟩
        rw [Exit.noGoto_ret]
        exact bodyPost_ret (results_three Tryz.results8 rfl rfl rfl (A2.row cs.toArray) hi2) rfl HX
      | false =>
        have hm0 : rightN s.c s.ps s.es lv1 ≠ 0 := of_decide_eq_false hm
        have hX : Hid (pTake T = .error (0, rightN s.c s.ps s.es lv1)) := by
          rw [Hid, pTake, hE.out]
          simp only []
          rw [hlv, if_neg hm0]
        have HR : Hid (∀ w', Below W1.heap.size W1 w' → Calls Tryz.prog 30 #[.agg cs.toArray, .int .i64 lv1] w' fun e w'' => ∃ p : Nat, e = .returned (.iface 153 (.pointer (some ⟨p, 0, none⟩))) ∧ ErrAt w'' (.iface 153 (.pointer (some ⟨p, 0, none⟩))) (rightN s.c s.ps s.es lv1) ∧ Below w'.heap.size w' w'') := fun w' h => (hR w' h).mono fun e w'' q => newr_pos q hm0
        obtain ⟨m, hm1⟩ : ∃ m, rightN s.c s.ps s.es lv1 = m := ⟨_, rfl⟩
        rw [hm1] at HR hX
        clear hR hm hm0 hE hm1
        go_upto_region 13 with (fail)
        have hX := @Ext.cell W1
        have hzz0 := block_lt_of_cell x0
        have hzz1 := block_lt_of_cell x2
        refine wp_region_noPanic ?_
        refine NC.wp_region_plan (fun w' => ∃ x : Ext W1, w' = x.w) [([0, 1, 2, 3, 4, 5, 6, 7, 8, 9, 10], 11)] [12] (by kernel_rfl) (by kernel_rfl) (by kernel_rfl) (fun _ _ _ _ _ h => h) ⟨⟨_, (brefl W1).drew⟩, rfl⟩ ?_
        refine NC.wpPlan_cons ?_
        simp only [NC.pickOps, List.getElem?_cons_succ, List.getElem?_cons_zero, Option.elim_some]
        go_big_quiet_step (fail)
        go_big_quiet_step (fail)
        go_big_quiet_step (fail)
        refine wpQuiet_load_mid rfl 30 (.tmp 51) rfl (a + 1) (0) rfl cs _ (range_ext r1) Tryz.underlying30 rfl hi ?_; simp only [Act.put, List.setIfInBounds_toArray, List.set_cons_succ, List.set_cons_zero]
        go_big_quiet_step (fail)
        go_big_quiet_step (fail)
        go_big_quiet_step (fail)
        go_big_quiet_step (fail)
        go_big_quiet_step (fail)
        go_big_quiet_step (fail)
        go_big_quiet_step (fail)
        refine wpQuiet_nil ?_
        refine NC.planAct_some (fun K hK => ?_)
        go_simp
        refine (HR.out _ (brefl W1).drew).mono ?_
        rintro e w2 ⟨p2, rfl, he2, hb2⟩; have m1 := bnext (brefl W1).drew hb2; have HE2 := Lib.hid he2; clear he2
        go_wp2_with fail
        refine hK.out _ _ ⟨⟨_, m1⟩, rfl⟩ ?_
        clear hK K
        refine NC.wpPlan_last ?_
        simp only [NC.pickOps, List.getElem?_cons_succ, List.getElem?_cons_zero, Option.elim_some]
        repeat (go_big_quiet_step (fail))
        refine wpQuiet_nil ?_
        refine NoPanic.normal ?_
        clear hX hzz0 hzz1
        have A2 := HA1.out.below_ m1
        have tok1 : True := trivial
        go_wp2_with (have _t := tok1; refine wpList_store_row (o := ⟨none, .store 30 (.tmp 2) (.tmp 63), _, _, _, _⟩) rfl 30 (.tmp 2) (.tmp 63) rfl a _ rfl rfl 30 _ A2 (by kernel_rfl) (by simp) (by simp [Value.oneCell']) ?_; clear tok1 _t)
        have kr := keeps_row w2 a #[.int .i64 0, .int .i64 0, .int .i64 0, .int .i64 0, .int .i64 0, .int .i64 0, .int .i64 0, .int .i64 0, .int .i64 0, .int .i64 0, .int .i64 0, .int .i64 0, .int .i64 0, .int .i64 0, .slice none 0 0, .slice none 0 0, .slice none 0 0, .slice none 0 0, .slice none 0 0, .slice none 0 0, .slice none 0 0, .slice none 0 0, .slice none 0 0]
        have HX : TakeT w (pTake T) (.returned (.tuple #[.agg #[.int .i64 0, .int .i64 0, .int .i64 0, .int .i64 0, .int .i64 0, .int .i64 0, .int .i64 0, .int .i64 0, .int .i64 0, .int .i64 0, .int .i64 0, .int .i64 0, .int .i64 0, .int .i64 0, .slice none 0 0, .slice none 0 0, .slice none 0 0, .slice none 0 0, .slice none 0 0, .slice none 0 0, .slice none 0 0, .slice none 0 0, .slice none 0 0], .int .i64 0, .iface 153 (.pointer (some ⟨p2, 0, none⟩))])) (w2.setRow a #[.int .i64 0, .int .i64 0, .int .i64 0, .int .i64 0, .int .i64 0, .int .i64 0, .int .i64 0, .int .i64 0, .int .i64 0, .int .i64 0, .int .i64 0, .int .i64 0, .int .i64 0, .int .i64 0, .slice none 0 0, .slice none 0 0, .slice none 0 0, .slice none 0 0, .slice none 0 0, .slice none 0 0, .slice none 0 0, .slice none 0 0, .slice none 0 0]) := by
          rw [hX.out]
          exact ⟨kr.below (bnext hb1 m1) (by have := A2.lt; omega) (fun x e _ => by have e' : x = a := e; omega), _, rfl, HE2.out.row A2⟩
        rw [Exit.noGoto_ret]
        exact bodyPost_ret (results_three Tryz.results8 rfl rfl rfl (A2.row _) (by kernel_rfl)) rfl HX
    · cases hbk : brk 10 t with
      | none =>
        have hcut := cut_none HV.out.lv (by omega) hbk
        have hE : Hid (pTake T = .error (k + 1, 3)) := pTake_err (by rw [hpl.out, pLines, if_neg hx, hbk])
        clear hbk hpl
        by_cases hk : k = 0
        · subst hk
          have h00 : s = st0 := h0.out rfl
          obtain rfl : n = 0 := hn
          have hspl : ∀ nn : Nat, Calls Tryz.prog 23 #[.string (bstr t), .string ⟨#[32]⟩] (wr.drewN nn) fun e w' => e = .returned (.slice (some ⟨(wr.drewN nn).heap.size, 0, none⟩) (spl 32 t).length (spl 32 t).length) ∧ w' = (wr.drewN nn).alloc (.cells ((spl 32 t).map fun x => Value.string (bstr x)).toArray 9) := fun nn => split_any t (HV.out.lv.below (below_drewN (brefl _) _)) (by omega)
          have hw1 := spl_len 32 t
          have hw2 := spl_mem 32 t
          obtain ⟨ws, hws⟩ : ∃ ws, spl 32 t = ws := ⟨_, rfl⟩
          rw [hws] at hspl hw1 hw2
          have HW1 : Hid (ws.length ≤ 1000001 ∧ ∀ x, x ∈ ws → x.length ≤ 1000000) := ⟨by omega, fun x hx => Nat.le_trans (hw2 x hx) (by omega)⟩
          have HWS := Lib.hid hws
          clear hw1 hw2 hws
          obtain ⟨q, hq⟩ : ∃ q, wr.heap.size = q := ⟨_, rfl⟩
          have HQ := Lib.hid hq
          have tok1 : True := trivial; have tok2 : True := trivial; have tok3 : True := trivial; have tok4 : True := trivial
          go_upto_region 7 with (first | (have _t := tok1; go_at_call 22; refine hcut.mono ?_; rintro e w1 ⟨rfl, nn, rfl⟩; clear tok1 _t) | (have _t := tok2; go_at_call 23; refine (hspl nn).mono ?_; rintro e w2 ⟨rfl, rfl⟩; clear tok2 _t))
          obtain ⟨W3, hW3, R3, Q3, B3⟩ : ∃ W3, (((wr.drewN nn).alloc (.cells (ws.map fun x => Value.string (bstr x)).toArray 9)).alloc (.cells #[.slice (some ⟨q, 0, none⟩) ws.length ws.length, .int .i64 0] 70)).alloc (.cells #[.pointer (some ⟨q + 1, 0, none⟩)] 66) = W3 ∧ RBd W3 (q + 1) q ws 0 ∧ Blk W3 (q + 2) 66 #[.pointer (some ⟨q + 1, 0, none⟩)] ∧ Below wr.heap.size wr W3 := by
            have h1 := Blk.new (wr.drewN nn) 9 (ws.map fun x => Value.string (bstr x)).toArray
            have h2 := Blk.new ((wr.drewN nn).alloc (.cells (ws.map fun x => Value.string (bstr x)).toArray 9)) 70 #[.slice (some ⟨q, 0, none⟩) ws.length ws.length, .int .i64 0]
            have h3 := Blk.new (((wr.drewN nn).alloc (.cells (ws.map fun x => Value.string (bstr x)).toArray 9)).alloc (.cells #[.slice (some ⟨q, 0, none⟩) ws.length ws.length, .int .i64 0] 70)) 66 #[.pointer (some ⟨q + 1, 0, none⟩)]
            have hz : (wr.drewN nn).heap.size = q := HQ.out
            simp only [World.size_alloc, hz] at h1 h2 h3
            exact ⟨_, rfl, ⟨h2.alloc _, (h1.alloc _).alloc _, Nat.zero_le _, HW1.out.1, HW1.out.2⟩, h3, bnew (bnew (bnew (below_drewN (brefl _) _) _) _) _⟩
          rw [hW3]
          clear hW3 hcut hspl
          have A3 := hA.out.below_ B3
          have P3 := hP.out.below_ B3
          have T3 := hTK.out.below B3
          have V3 : LVB a W3 := HV.out.keeps (Keeps.of_below (S := fun _ => False) B3) (fun b e => e.elim)
          have x5 := P3.cell 0
          have x10 := Q3.cell 0
          have hrb : a ≤ q + 1 := by have := HV.out.le; omega
          have HR3 := Lib.hid R3
          have HT3 := Lib.hid T3
          have HV3 := Lib.hid V3
          have HA3 := Lib.hid A3
          have HP3 := Lib.hid P3
          clear R3 T3 V3 A3 P3 Q3
          have A4 := HA3.out
          clear HA3
          go_wp2_with (first | (have _t := tok3; go_at_call 29; refine form_any.mono ?_; rintro e w5 hn5; obtain ⟨p2, rfl, he5, hb5⟩ := newr_pos hn5 (by decide); have HE5 := Lib.hid he5; clear he5 hn5; have A5 := A4.below_ hb5; clear tok3 _t) | (have _t := tok4; refine wpList_store_row (o := ⟨none, .store 30 (.tmp 2) (.tmp 45), _, _, _, _⟩) rfl 30 (.tmp 2) (.tmp 45) rfl a _ rfl rfl 30 _ A5 (by kernel_rfl) (by simp) (by simp [Value.oneCell']) ?_; clear tok4 _t))
          have HX : TakeT w (pTake T) (.returned (.tuple #[.agg #[.int .i64 0, .int .i64 0, .int .i64 0, .int .i64 0, .int .i64 0, .int .i64 0, .int .i64 0, .int .i64 0, .int .i64 0, .int .i64 0, .int .i64 0, .int .i64 0, .int .i64 0, .int .i64 0, .slice none 0 0, .slice none 0 0, .slice none 0 0, .slice none 0 0, .slice none 0 0, .slice none 0 0, .slice none 0 0, .slice none 0 0, .slice none 0 0], .int .i64 1, .iface 153 (.pointer (some ⟨p2, 0, none⟩))])) (w5.setRow a #[.int .i64 0, .int .i64 0, .int .i64 0, .int .i64 0, .int .i64 0, .int .i64 0, .int .i64 0, .int .i64 0, .int .i64 0, .int .i64 0, .int .i64 0, .int .i64 0, .int .i64 0, .int .i64 0, .slice none 0 0, .slice none 0 0, .slice none 0 0, .slice none 0 0, .slice none 0 0, .slice none 0 0, .slice none 0 0, .slice none 0 0, .slice none 0 0]) := by
            rw [hE.out]
            exact ⟨(keeps_row w5 a _).below (bnext (bnext hb B3) hb5) (by have := A5.lt; omega) (fun x e _ => by have e' : x = a := e; omega), _, rfl, HE5.out.row A5⟩
          first | (rw [Exit.noGoto_ret]; exact bodyPost_ret (results_three Tryz.results8 rfl rfl rfl (A5.row _) (by kernel_rfl)) rfl HX) | exact bodyPost_ret (results_three Tryz.results8 rfl rfl rfl (A5.row _) (by kernel_rfl)) rfl HX
        · obtain rfl : n = (k : Int) := hn
          have hk1 : 0 < k := by omega
          have t0 : (0 : Int) < (k : Int) := by omega
          have hne : t ≠ [] := fun e => hx ⟨hk1, e⟩
          have te : ((bstr t).toList == []) = false := by
            rw [beq_eq_false_iff_ne, ByteArray.toList_eq]
            exact hne
          have c1 : IntKind.i64.wrap ((k : Int) + 1) = (k : Int) + 1 := IntWalk.i64_in _ (by omega)
          have tn : ((k : Int) + 1 == 1) = false := by rw [beq_eq_false_iff_ne]; omega
          have tn' : ¬ ((k : Int) + 1 = 1) := by omega
          clear hne
          have hspl : ∀ nn : Nat, Calls Tryz.prog 23 #[.string (bstr t), .string ⟨#[32]⟩] (wr.drewN nn) fun e w' => e = .returned (.slice (some ⟨(wr.drewN nn).heap.size, 0, none⟩) (spl 32 t).length (spl 32 t).length) ∧ w' = (wr.drewN nn).alloc (.cells ((spl 32 t).map fun x => Value.string (bstr x)).toArray 9) := fun nn => split_any t (HV.out.lv.below (below_drewN (brefl _) _)) (by omega)
          have hw1 := spl_len 32 t
          have hw2 := spl_mem 32 t
          obtain ⟨ws, hws⟩ : ∃ ws, spl 32 t = ws := ⟨_, rfl⟩
          rw [hws] at hspl hw1 hw2
          have HW1 : Hid (ws.length ≤ 1000001 ∧ ∀ x, x ∈ ws → x.length ≤ 1000000) := ⟨by omega, fun x hx => Nat.le_trans (hw2 x hx) (by omega)⟩
          have HWS := Lib.hid hws
          clear hw1 hw2 hws
          obtain ⟨q, hq⟩ : ∃ q, wr.heap.size = q := ⟨_, rfl⟩
          have HQ := Lib.hid hq
          have tok1 : True := trivial; have tok2 : True := trivial; have tok3 : True := trivial; have tok4 : True := trivial
          go_upto_region 7 with (first | (have _t := tok1; go_at_call 22; refine hcut.mono ?_; rintro e w1 ⟨rfl, nn, rfl⟩; clear tok1 _t) | (have _t := tok2; go_at_call 23; refine (hspl nn).mono ?_; rintro e w2 ⟨rfl, rfl⟩; clear tok2 _t))
          obtain ⟨W3, hW3, R3, Q3, B3⟩ : ∃ W3, (((wr.drewN nn).alloc (.cells (ws.map fun x => Value.string (bstr x)).toArray 9)).alloc (.cells #[.slice (some ⟨q, 0, none⟩) ws.length ws.length, .int .i64 0] 70)).alloc (.cells #[.pointer (some ⟨q + 1, 0, none⟩)] 66) = W3 ∧ RBd W3 (q + 1) q ws 0 ∧ Blk W3 (q + 2) 66 #[.pointer (some ⟨q + 1, 0, none⟩)] ∧ Below wr.heap.size wr W3 := by
            have h1 := Blk.new (wr.drewN nn) 9 (ws.map fun x => Value.string (bstr x)).toArray
            have h2 := Blk.new ((wr.drewN nn).alloc (.cells (ws.map fun x => Value.string (bstr x)).toArray 9)) 70 #[.slice (some ⟨q, 0, none⟩) ws.length ws.length, .int .i64 0]
            have h3 := Blk.new (((wr.drewN nn).alloc (.cells (ws.map fun x => Value.string (bstr x)).toArray 9)).alloc (.cells #[.slice (some ⟨q, 0, none⟩) ws.length ws.length, .int .i64 0] 70)) 66 #[.pointer (some ⟨q + 1, 0, none⟩)]
            have hz : (wr.drewN nn).heap.size = q := HQ.out
            simp only [World.size_alloc, hz] at h1 h2 h3
            exact ⟨_, rfl, ⟨h2.alloc _, (h1.alloc _).alloc _, Nat.zero_le _, HW1.out.1, HW1.out.2⟩, h3, bnew (bnew (bnew (below_drewN (brefl _) _) _) _) _⟩
          rw [hW3]
          clear hW3 hcut hspl
          have A3 := hA.out.below_ B3
          have P3 := hP.out.below_ B3
          have T3 := hTK.out.below B3
          have V3 : LVB a W3 := HV.out.keeps (Keeps.of_below (S := fun _ => False) B3) (fun b e => e.elim)
          have x5 := P3.cell 0
          have x10 := Q3.cell 0
          have hrb : a ≤ q + 1 := by have := HV.out.le; omega
          have HR3 := Lib.hid R3
          have HT3 := Lib.hid T3
          have HV3 := Lib.hid V3
          have HA3 := Lib.hid A3
          have HP3 := Lib.hid P3
          clear R3 T3 V3 A3 P3 Q3
          have A4 := HA3.out
          clear HA3
          go_wp2_with (first | (have _t := tok3; go_at_call 29; refine form_any.mono ?_; rintro e w5 hn5; obtain ⟨p2, rfl, he5, hb5⟩ := newr_pos hn5 (by decide); have HE5 := Lib.hid he5; clear he5 hn5; have A5 := A4.below_ hb5; clear tok3 _t) | (have _t := tok4; refine wpList_store_row (o := ⟨none, .store 30 (.tmp 2) (.tmp 45), _, _, _, _⟩) rfl 30 (.tmp 2) (.tmp 45) rfl a _ rfl rfl 30 _ A5 (by kernel_rfl) (by simp) (by simp [Value.oneCell']) ?_; clear tok4 _t))
          have HX : TakeT w (pTake T) (.returned (.tuple #[.agg #[.int .i64 0, .int .i64 0, .int .i64 0, .int .i64 0, .int .i64 0, .int .i64 0, .int .i64 0, .int .i64 0, .int .i64 0, .int .i64 0, .int .i64 0, .int .i64 0, .int .i64 0, .int .i64 0, .slice none 0 0, .slice none 0 0, .slice none 0 0, .slice none 0 0, .slice none 0 0, .slice none 0 0, .slice none 0 0, .slice none 0 0, .slice none 0 0], .int .i64 ((k : Int) + 1), .iface 153 (.pointer (some ⟨p2, 0, none⟩))])) (w5.setRow a #[.int .i64 0, .int .i64 0, .int .i64 0, .int .i64 0, .int .i64 0, .int .i64 0, .int .i64 0, .int .i64 0, .int .i64 0, .int .i64 0, .int .i64 0, .int .i64 0, .int .i64 0, .int .i64 0, .slice none 0 0, .slice none 0 0, .slice none 0 0, .slice none 0 0, .slice none 0 0, .slice none 0 0, .slice none 0 0, .slice none 0 0, .slice none 0 0]) := by
            rw [hE.out]
            exact ⟨(keeps_row w5 a _).below (bnext (bnext hb B3) hb5) (by have := A5.lt; omega) (fun x e _ => by have e' : x = a := e; omega), _, rfl, HE5.out.row A5⟩
          first | (rw [Exit.noGoto_ret]; exact bodyPost_ret (results_three Tryz.results8 rfl rfl rfl (A5.row _) (by kernel_rfl)) rfl HX) | exact bodyPost_ret (results_three Tryz.results8 rfl rfl rfl (A5.row _) (by kernel_rfl)) rfl HX
      | some p =>
        have hcut := cut_some HV.out.lv (by omega) hbk
        have hpe : t.length = p.1.length + (p.2.length + 1) := by have := brk_eq hbk; rw [this]; simp
        by_cases hk : k = 0
        · subst hk
          have h00 : s = st0 := h0.out rfl
          obtain rfl : n = 0 := hn
          have hspl : ∀ nn : Nat, Calls Tryz.prog 23 #[.string (bstr p.1), .string ⟨#[32]⟩] (wr.drewN nn) fun e w' => e = .returned (.slice (some ⟨(wr.drewN nn).heap.size, 0, none⟩) (spl 32 p.1).length (spl 32 p.1).length) ∧ w' = (wr.drewN nn).alloc (.cells ((spl 32 p.1).map fun x => Value.string (bstr x)).toArray 9) := fun nn => split_any p.1 (HV.out.lv.below (below_drewN (brefl _) _)) (by omega)
          have hw1 := spl_len 32 p.1
          have hw2 := spl_mem 32 p.1
          obtain ⟨ws, hws⟩ : ∃ ws, spl 32 p.1 = ws := ⟨_, rfl⟩
          rw [hws] at hspl hw1 hw2
          have HW1 : Hid (ws.length ≤ 1000001 ∧ ∀ x, x ∈ ws → x.length ≤ 1000000) := ⟨by omega, fun x hx => Nat.le_trans (hw2 x hx) (by omega)⟩
          have HWS := Lib.hid hws
          clear hw1 hw2 hws
          obtain ⟨q, hq⟩ : ∃ q, wr.heap.size = q := ⟨_, rfl⟩
          have HQ := Lib.hid hq
          have tok1 : True := trivial; have tok2 : True := trivial; have tok3 : True := trivial; have tok4 : True := trivial
          go_upto_region 7 with (first | (have _t := tok1; go_at_call 22; refine hcut.mono ?_; rintro e w1 ⟨rfl, nn, rfl⟩; clear tok1 _t) | (have _t := tok2; go_at_call 23; refine (hspl nn).mono ?_; rintro e w2 ⟨rfl, rfl⟩; clear tok2 _t))
          obtain ⟨W3, hW3, R3, Q3, B3⟩ : ∃ W3, (((wr.drewN nn).alloc (.cells (ws.map fun x => Value.string (bstr x)).toArray 9)).alloc (.cells #[.slice (some ⟨q, 0, none⟩) ws.length ws.length, .int .i64 0] 70)).alloc (.cells #[.pointer (some ⟨q + 1, 0, none⟩)] 66) = W3 ∧ RBd W3 (q + 1) q ws 0 ∧ Blk W3 (q + 2) 66 #[.pointer (some ⟨q + 1, 0, none⟩)] ∧ Below wr.heap.size wr W3 := by
            have h1 := Blk.new (wr.drewN nn) 9 (ws.map fun x => Value.string (bstr x)).toArray
            have h2 := Blk.new ((wr.drewN nn).alloc (.cells (ws.map fun x => Value.string (bstr x)).toArray 9)) 70 #[.slice (some ⟨q, 0, none⟩) ws.length ws.length, .int .i64 0]
            have h3 := Blk.new (((wr.drewN nn).alloc (.cells (ws.map fun x => Value.string (bstr x)).toArray 9)).alloc (.cells #[.slice (some ⟨q, 0, none⟩) ws.length ws.length, .int .i64 0] 70)) 66 #[.pointer (some ⟨q + 1, 0, none⟩)]
            have hz : (wr.drewN nn).heap.size = q := HQ.out
            simp only [World.size_alloc, hz] at h1 h2 h3
            exact ⟨_, rfl, ⟨h2.alloc _, (h1.alloc _).alloc _, Nat.zero_le _, HW1.out.1, HW1.out.2⟩, h3, bnew (bnew (bnew (below_drewN (brefl _) _) _) _) _⟩
          rw [hW3]
          clear hW3 hcut hspl
          have A3 := hA.out.below_ B3
          have P3 := hP.out.below_ B3
          have T3 := hTK.out.below B3
          have V3 : LVB a W3 := HV.out.keeps (Keeps.of_below (S := fun _ => False) B3) (fun b e => e.elim)
          have x5 := P3.cell 0
          have x10 := Q3.cell 0
          have hrb : a ≤ q + 1 := by have := HV.out.le; omega
          have HR3 := Lib.hid R3
          have HT3 := Lib.hid T3
          have HV3 := Lib.hid V3
          have HA3 := Lib.hid A3
          have HP3 := Lib.hid P3
          clear R3 T3 V3 A3 P3 Q3
          have HT := Lib.hid (tryc_any (p5 := a + 2) (p10 := q + 2) x5 x10 HR3.out HT3.out HV3.out hrb (by omega) h00 rfl)
          have HST : Hid (pStep 0 s ws = (pConf ws).map fun c => { st0 with c := c }) := by subst h00; rfl
          clear x5 x10
          cases hst : (pConf ws).map fun c => { st0 with c := c } with
          | none =>
            have hE : Hid (pTake T = .error (0 + 1, 3)) := pTake_err (by rw [hpl.out, pLines, if_neg hx, hbk]; simp only []; rw [HWS.out, HST.out, hst])
            rw [hst] at HT
            have hc : Calls Tryz.prog 28 #[.func (.func 26) #[] #[.pointer (some ⟨a + 2, 0, none⟩), .pointer (some ⟨q + 2, 0, none⟩)]] W3 fun e w' => KT a W3 w' ∧ e = .returned (.bool false) := HT.out
            clear HT hst hbk
            have tok5 : True := trivial
            go_wp2_with (first | (have _t := tok5; go_at_call 28; refine hc.mono ?_; rintro e w4 ⟨kt, rfl⟩; have A4 := kt.k _ _ _ (by decide) (by decide) (by decide) (by decide) HA3.out; clear tok5 _t) | (have _t := tok3; go_at_call 29; refine form_any.mono ?_; rintro e w5 hn5; obtain ⟨p2, rfl, he5, hb5⟩ := newr_pos hn5 (by decide); have HE5 := Lib.hid he5; clear he5 hn5; have A5 := A4.below_ hb5; clear tok3 _t) | (have _t := tok4; refine wpList_store_row (o := ⟨none, .store 30 (.tmp 2) (.tmp 45), _, _, _, _⟩) rfl 30 (.tmp 2) (.tmp 45) rfl a _ rfl rfl 30 _ A5 (by kernel_rfl) (by simp) (by simp [Value.oneCell']) ?_; clear tok4 _t))
            have kb4 : Below w.heap.size w w4 := (bnext hb B3).trans (ha.symm ▸ kt.b)
            have HX : TakeT w (pTake T) (.returned (.tuple #[.agg #[.int .i64 0, .int .i64 0, .int .i64 0, .int .i64 0, .int .i64 0, .int .i64 0, .int .i64 0, .int .i64 0, .int .i64 0, .int .i64 0, .int .i64 0, .int .i64 0, .int .i64 0, .int .i64 0, .slice none 0 0, .slice none 0 0, .slice none 0 0, .slice none 0 0, .slice none 0 0, .slice none 0 0, .slice none 0 0, .slice none 0 0, .slice none 0 0], .int .i64 1, .iface 153 (.pointer (some ⟨p2, 0, none⟩))])) (w5.setRow a #[.int .i64 0, .int .i64 0, .int .i64 0, .int .i64 0, .int .i64 0, .int .i64 0, .int .i64 0, .int .i64 0, .int .i64 0, .int .i64 0, .int .i64 0, .int .i64 0, .int .i64 0, .int .i64 0, .slice none 0 0, .slice none 0 0, .slice none 0 0, .slice none 0 0, .slice none 0 0, .slice none 0 0, .slice none 0 0, .slice none 0 0, .slice none 0 0]) := by
              rw [hE.out]
              exact ⟨(keeps_row w5 a _).below (bnext kb4 hb5) (by have := A5.lt; omega) (fun x e _ => by have e' : x = a := e; omega), _, rfl, HE5.out.row A5⟩
            first | (rw [Exit.noGoto_ret]; exact bodyPost_ret (results_three Tryz.results8 rfl rfl rfl (A5.row _) (by kernel_rfl)) rfl HX) | exact bodyPost_ret (results_three Tryz.results8 rfl rfl rfl (A5.row _) (by kernel_rfl)) rfl HX
          | some s1 =>
            have hE : Hid (pLines (T.length + 1) 0 st0 T = pLines g (0 + 1) s1 p.2) := by rw [Hid, hpl.out, pLines, if_neg hx, hbk]; simp only []; rw [HWS.out, HST.out, hst]
            rw [hst] at HT
            have hc : Calls Tryz.prog 28 #[.func (.func 26) #[] #[.pointer (some ⟨a + 2, 0, none⟩), .pointer (some ⟨q + 2, 0, none⟩)]] W3 fun e w' => KT a W3 w' ∧ e = .returned (.bool true) ∧ TK w' a (a + 1) s1 (0 + 1) := HT.out
            clear HT hst hbk
            have tok5 : True := trivial
            go_wp2_with (have _t := tok5; go_at_call 28; refine hc.mono ?_; rintro e w4 ⟨kt, rfl, ht4⟩; clear tok5 _t)
            go_roundg g
            case measure => omega
            case rel => exact ⟨p.2, 0 + 1, 1, s1, rfl, by go_num, rfl, by omega, by omega, by omega, fun e => by omega, ht4, kt.k _ _ _ (by decide) (by decide) (by decide) (by decide) HA3.out, kt.k _ _ _ (by decide) (by decide) (by decide) (by decide) HP3.out, (bnext hb B3).trans (ha.symm ▸ kt.b), hE⟩
        · obtain rfl : n = (k : Int) := hn
          have hk1 : 0 < k := by omega
          have t0 : (0 : Int) < (k : Int) := by omega
          have hne : t ≠ [] := fun e => hx ⟨hk1, e⟩
          have te : ((bstr t).toList == []) = false := by
            rw [beq_eq_false_iff_ne, ByteArray.toList_eq]
            exact hne
          have c1 : IntKind.i64.wrap ((k : Int) + 1) = (k : Int) + 1 := IntWalk.i64_in _ (by omega)
          have tn : ((k : Int) + 1 == 1) = false := by rw [beq_eq_false_iff_ne]; omega
          have tn' : ¬ ((k : Int) + 1 = 1) := by omega
          clear hne
          have hspl : ∀ nn : Nat, Calls Tryz.prog 23 #[.string (bstr p.1), .string ⟨#[32]⟩] (wr.drewN nn) fun e w' => e = .returned (.slice (some ⟨(wr.drewN nn).heap.size, 0, none⟩) (spl 32 p.1).length (spl 32 p.1).length) ∧ w' = (wr.drewN nn).alloc (.cells ((spl 32 p.1).map fun x => Value.string (bstr x)).toArray 9) := fun nn => split_any p.1 (HV.out.lv.below (below_drewN (brefl _) _)) (by omega)
          have hw1 := spl_len 32 p.1
          have hw2 := spl_mem 32 p.1
          obtain ⟨ws, hws⟩ : ∃ ws, spl 32 p.1 = ws := ⟨_, rfl⟩
          rw [hws] at hspl hw1 hw2
          have HW1 : Hid (ws.length ≤ 1000001 ∧ ∀ x, x ∈ ws → x.length ≤ 1000000) := ⟨by omega, fun x hx => Nat.le_trans (hw2 x hx) (by omega)⟩
          have HWS := Lib.hid hws
          clear hw1 hw2 hws
          obtain ⟨q, hq⟩ : ∃ q, wr.heap.size = q := ⟨_, rfl⟩
          have HQ := Lib.hid hq
          have tok1 : True := trivial; have tok2 : True := trivial; have tok3 : True := trivial; have tok4 : True := trivial
          go_upto_region 7 with (first | (have _t := tok1; go_at_call 22; refine hcut.mono ?_; rintro e w1 ⟨rfl, nn, rfl⟩; clear tok1 _t) | (have _t := tok2; go_at_call 23; refine (hspl nn).mono ?_; rintro e w2 ⟨rfl, rfl⟩; clear tok2 _t))
          obtain ⟨W3, hW3, R3, Q3, B3⟩ : ∃ W3, (((wr.drewN nn).alloc (.cells (ws.map fun x => Value.string (bstr x)).toArray 9)).alloc (.cells #[.slice (some ⟨q, 0, none⟩) ws.length ws.length, .int .i64 0] 70)).alloc (.cells #[.pointer (some ⟨q + 1, 0, none⟩)] 66) = W3 ∧ RBd W3 (q + 1) q ws 0 ∧ Blk W3 (q + 2) 66 #[.pointer (some ⟨q + 1, 0, none⟩)] ∧ Below wr.heap.size wr W3 := by
            have h1 := Blk.new (wr.drewN nn) 9 (ws.map fun x => Value.string (bstr x)).toArray
            have h2 := Blk.new ((wr.drewN nn).alloc (.cells (ws.map fun x => Value.string (bstr x)).toArray 9)) 70 #[.slice (some ⟨q, 0, none⟩) ws.length ws.length, .int .i64 0]
            have h3 := Blk.new (((wr.drewN nn).alloc (.cells (ws.map fun x => Value.string (bstr x)).toArray 9)).alloc (.cells #[.slice (some ⟨q, 0, none⟩) ws.length ws.length, .int .i64 0] 70)) 66 #[.pointer (some ⟨q + 1, 0, none⟩)]
            have hz : (wr.drewN nn).heap.size = q := HQ.out
            simp only [World.size_alloc, hz] at h1 h2 h3
            exact ⟨_, rfl, ⟨h2.alloc _, (h1.alloc _).alloc _, Nat.zero_le _, HW1.out.1, HW1.out.2⟩, h3, bnew (bnew (bnew (below_drewN (brefl _) _) _) _) _⟩
          rw [hW3]
          clear hW3 hcut hspl
          have A3 := hA.out.below_ B3
          have P3 := hP.out.below_ B3
          have T3 := hTK.out.below B3
          have V3 : LVB a W3 := HV.out.keeps (Keeps.of_below (S := fun _ => False) B3) (fun b e => e.elim)
          have x5 := P3.cell 0
          have x10 := Q3.cell 0
          have hrb : a ≤ q + 1 := by have := HV.out.le; omega
          have HR3 := Lib.hid R3
          have HT3 := Lib.hid T3
          have HV3 := Lib.hid V3
          have HA3 := Lib.hid A3
          have HP3 := Lib.hid P3
          clear R3 T3 V3 A3 P3 Q3
          have HT := Lib.hid (tryl_any (p5 := a + 2) (p10 := q + 2) x5 x10 HR3.out HT3.out HV3.out hrb (by omega))
          have HST : Hid (pStep k s ws = pLine s ws) := if_neg (by omega)
          clear x5 x10
          cases hst : pLine s ws with
          | none =>
            have hE : Hid (pTake T = .error (k + 1, 3)) := pTake_err (by rw [hpl.out, pLines, if_neg hx, hbk]; simp only []; rw [HWS.out, HST.out, hst])
            rw [hst] at HT
            have hc : Calls Tryz.prog 28 #[.func (.func 24) #[] #[.pointer (some ⟨a + 2, 0, none⟩), .pointer (some ⟨q + 2, 0, none⟩)]] W3 fun e w' => KT a W3 w' ∧ e = .returned (.bool false) := HT.out
            clear HT hst hbk
            have tok5 : True := trivial
            go_wp2_with (first | (have _t := tok5; go_at_call 28; refine hc.mono ?_; rintro e w4 ⟨kt, rfl⟩; have A4 := kt.k _ _ _ (by decide) (by decide) (by decide) (by decide) HA3.out; clear tok5 _t) | (have _t := tok3; go_at_call 29; refine form_any.mono ?_; rintro e w5 hn5; obtain ⟨p2, rfl, he5, hb5⟩ := newr_pos hn5 (by decide); have HE5 := Lib.hid he5; clear he5 hn5; have A5 := A4.below_ hb5; clear tok3 _t) | (have _t := tok4; refine wpList_store_row (o := ⟨none, .store 30 (.tmp 2) (.tmp 45), _, _, _, _⟩) rfl 30 (.tmp 2) (.tmp 45) rfl a _ rfl rfl 30 _ A5 (by kernel_rfl) (by simp) (by simp [Value.oneCell']) ?_; clear tok4 _t))
            have kb4 : Below w.heap.size w w4 := (bnext hb B3).trans (ha.symm ▸ kt.b)
            have HX : TakeT w (pTake T) (.returned (.tuple #[.agg #[.int .i64 0, .int .i64 0, .int .i64 0, .int .i64 0, .int .i64 0, .int .i64 0, .int .i64 0, .int .i64 0, .int .i64 0, .int .i64 0, .int .i64 0, .int .i64 0, .int .i64 0, .int .i64 0, .slice none 0 0, .slice none 0 0, .slice none 0 0, .slice none 0 0, .slice none 0 0, .slice none 0 0, .slice none 0 0, .slice none 0 0, .slice none 0 0], .int .i64 ((k : Int) + 1), .iface 153 (.pointer (some ⟨p2, 0, none⟩))])) (w5.setRow a #[.int .i64 0, .int .i64 0, .int .i64 0, .int .i64 0, .int .i64 0, .int .i64 0, .int .i64 0, .int .i64 0, .int .i64 0, .int .i64 0, .int .i64 0, .int .i64 0, .int .i64 0, .int .i64 0, .slice none 0 0, .slice none 0 0, .slice none 0 0, .slice none 0 0, .slice none 0 0, .slice none 0 0, .slice none 0 0, .slice none 0 0, .slice none 0 0]) := by
              rw [hE.out]
              exact ⟨(keeps_row w5 a _).below (bnext kb4 hb5) (by have := A5.lt; omega) (fun x e _ => by have e' : x = a := e; omega), _, rfl, HE5.out.row A5⟩
            first | (rw [Exit.noGoto_ret]; exact bodyPost_ret (results_three Tryz.results8 rfl rfl rfl (A5.row _) (by kernel_rfl)) rfl HX) | exact bodyPost_ret (results_three Tryz.results8 rfl rfl rfl (A5.row _) (by kernel_rfl)) rfl HX
          | some s1 =>
            have hE : Hid (pLines (T.length + 1) 0 st0 T = pLines g (k + 1) s1 p.2) := by rw [Hid, hpl.out, pLines, if_neg hx, hbk]; simp only []; rw [HWS.out, HST.out, hst]
            rw [hst] at HT
            have hc : Calls Tryz.prog 28 #[.func (.func 24) #[] #[.pointer (some ⟨a + 2, 0, none⟩), .pointer (some ⟨q + 2, 0, none⟩)]] W3 fun e w' => KT a W3 w' ∧ e = .returned (.bool true) ∧ TK w' a (a + 1) s1 (k + 1) := HT.out
            clear HT hst hbk
            have tok5 : True := trivial
            go_wp2_with (have _t := tok5; go_at_call 28; refine hc.mono ?_; rintro e w4 ⟨kt, rfl, ht4⟩; clear tok5 _t)
            go_roundg g
            case measure => omega
            case rel => exact ⟨p.2, k + 1, ((k : Int) + 1), s1, rfl, by go_num, by unfold Hid; omega, by omega, by omega, by omega, fun e => by omega, ht4, kt.k _ _ _ (by decide) (by decide) (by decide) (by decide) HA3.out, kt.k _ _ _ (by decide) (by decide) (by decide) (by decide) HP3.out, (bnext hb B3).trans (ha.symm ▸ kt.b), hE⟩
end Go.Proofs.YtjjgngccgjpnaaaGreatDoor
