/- Threads: the walk of Clone. -/
import Derived.Test.YtclhlgeicfhdiaaThreadO
import Derived.Laws.Rows
namespace Go.Proofs.Ytclhlgeicfhdiaa
set_option linter.unusedVariables false
set_option linter.unusedSimpArgs false
open Go.RowKit

theorem eq_nil (w : World) : (binOp .eql 23 (.slice none 0 0) (.slice none 0 0)).run Try.prog w = .ok (.bool true) w := by rfl
theorem eq_some (ad : Addr) (n c : Nat) (w : World) : (binOp .eql 23 (.slice (some ad) n c) (.slice none 0 0)).run Try.prog w = .ok (.bool false) w := by rfl
set_option maxHeartbeats 4000000 in
set_option maxRecDepth 100000 in
theorem sclone_any {w : World} {A : Option Addr} {n c : Nat} {l : List Int} (h : Sl us w A n c l) (hn : n ≤ 100000) : Calls Try.prog 21 #[.slice A n c] w fun e w' => ∃ A' c', e = .returned (.slice A' n c') ∧ w'.ownsRow w.heap.size 33 1 (.slice A' n c') n (l.map uc) ∧ Below w.heap.size w w' := by
  obtain ⟨i0, E⟩ := elem_u
  cases A with
  | none =>
    obtain ⟨rfl, rfl⟩ := h.nil_ rfl
    have hl0 : l = [] := List.eq_nil_of_length_eq_zero h.len
    subst hl0
    have q1 := eq_nil
    go_enter Try.func21, Try.ntmps21
    go_wp2
    go_ret
    exact ⟨none, 0, rfl, World.ownsRow_nil _ _ _ _, brefl w⟩
  | some ad =>
    have hrd := h.rd
    rw [us_map] at hrd
    have HL : Hid ((l.map uc).length = n) := by rw [Hid, List.length_map]; exact h.len
    have hone := uc_one l
    generalize l.map uc = ys at *
    clear h
    have q1 := eq_some ad
    go_enter Try.func21, Try.ntmps21
    go_wp2_with (at_builtin; refine wpList_fresh (W0 := w) (ys := ys) (m := n) E rfl (.tmp 5) (.tmp 6) rfl (bnew (brefl w) _) rfl (own_empty (brefl w) rfl) rfl (by rw [HL.out]; omega) (hrd.alloc _) hone (by unfold maxLen; omega) (by omega) ?_; intro A8 c8 w8 own8 hb8 _)
    go_ret
    exact ⟨A8, c8, rfl, own8, hb8⟩

/-- A thread in new memory. -/
def Cl (w w' : World) (t : Th) : Prop := ∃ L', TBox w' w.heap.size w.heap.size t L'
theorem thc_set12' {t : Th} {L : TL} (h : t.told.length = 8) (A : Option Addr) (d : Nat) : (thc t L).toArray.setIfInBounds 12 (.slice A t.hs.length d) = (thc t { L with B := A, d := d }).toArray := by
  obtain ⟨told, owns, st, ki, frames, hs⟩ := t
  obtain ⟨a0, a1, a2, a3, a4, a5, a6, a7, rfl⟩ := len8 h
  simp [thc]
theorem len16r {l : List Int} (h : l.length = 16) : ∃ a0 a1 a2 a3 a4 a5 a6 a7 a8 a9 a10 a11 a12 a13 a14 a15 : Int, l = [a0, a1, a2, a3, a4, a5, a6, a7, a8, a9, a10, a11, a12, a13, a14, a15] := by
  match l, h with
  | [a0, a1, a2, a3, a4, a5, a6, a7, a8, a9, a10, a11, a12, a13, a14, a15], _ => exact ⟨a0, a1, a2, a3, a4, a5, a6, a7, a8, a9, a10, a11, a12, a13, a14, a15, rfl⟩
theorem clone_start {w2 : World} {P : Nat} {t : Th} {L : TL} (B0 : Nat) (ht8 : t.told.length = 8) (hB : Blk w2 P 45 (thc t L).toArray) (hP : B0 ≤ P) {A2 : Option Addr} {c2 : Nat} (own : w2.ownsRow B0 33 1 (.slice A2 t.hs.length c2) t.hs.length (t.hs.map uc)) :
    TBox ((w2.setCell ⟨P, 11, none⟩ (.slice none 0 0)).setCell ⟨P, 12, none⟩ (.slice A2 t.hs.length c2)) B0 P { t with frames := [] } ⟨[], none, 0, A2, c2⟩ := by
  have k2 : Keeps (fun b => b = P) w2 ((w2.setCell ⟨P, 11, none⟩ (.slice none 0 0)).setCell ⟨P, 12, none⟩ (.slice A2 t.hs.length c2)) := keepq_set (keepq_set (Keeps.refl _ _))
  have hb := (hB.set_ 11 (.slice none 0 0)).set_ 12 (.slice A2 t.hs.length c2)
  rw [thc_set11 ht8 [] none 0 0 [] rfl, thc_set12' (t := { t with frames := [] }) ht8] at hb
  exact ⟨hb, World.ownsRow_nil _ _ _ _, k2.own own fun k e q => own_ne_blk own hB (by decide) (by rw [e, q]), fun i f hi => by simp at hi, List.nodup_nil, ⟨hP, fun q hq => by simp at hq⟩, ht8, fun f hf => by simp at hf⟩
set_option maxHeartbeats 4000000 in
set_option maxRecDepth 100000 in
theorem clone_any {w : World} {base p : Nat} {t : Th} {L : TL} (h : TBox w base p t L) (hl : t.frames.length ≤ 10000) (hl2 : t.hs.length ≤ 10000) :
    Calls Try.prog 18 #[.pointer (some ⟨p, 0, none⟩)] w fun e w' => e = .returned (.pointer (some ⟨w.heap.size, 0, none⟩)) ∧ Cl w w' t ∧ Below w.heap.size w w' := by
  obtain ⟨Lp, LA, Lc, LB, Ld⟩ := L
  obtain ⟨i0, E⟩ := elem_pf
  obtain ⟨a0, a1, a2, a3, a4, a5, a6, a7, htold⟩ := len8 h.t8
  have hcs : (thc t ⟨Lp, LA, Lc, LB, Ld⟩).toArray = #[.int .u64 a0, .int .u64 a1, .int .u64 a2, .int .u64 a3, .int .u64 a4, .int .u64 a5, .int .u64 a6, .int .u64 a7, .int .i64 t.owns, .bool t.st, .bool t.ki, .slice LA t.frames.length Lc, .slice LB t.hs.length Ld] := by simp [thc, htold, uc]
  have p0 : w.cell? ⟨p, 0, none⟩ = some (.int .u64 a0) := (h.blk.cell 0).trans (by rw [hcs]; rfl)
  have p1 : w.cell? ⟨p, 1, none⟩ = some (.int .u64 a1) := (h.blk.cell 1).trans (by rw [hcs]; rfl)
  have p2 : w.cell? ⟨p, 2, none⟩ = some (.int .u64 a2) := (h.blk.cell 2).trans (by rw [hcs]; rfl)
  have p3 : w.cell? ⟨p, 3, none⟩ = some (.int .u64 a3) := (h.blk.cell 3).trans (by rw [hcs]; rfl)
  have p4 : w.cell? ⟨p, 4, none⟩ = some (.int .u64 a4) := (h.blk.cell 4).trans (by rw [hcs]; rfl)
  have p5 : w.cell? ⟨p, 5, none⟩ = some (.int .u64 a5) := (h.blk.cell 5).trans (by rw [hcs]; rfl)
  have p6 : w.cell? ⟨p, 6, none⟩ = some (.int .u64 a6) := (h.blk.cell 6).trans (by rw [hcs]; rfl)
  have p7 : w.cell? ⟨p, 7, none⟩ = some (.int .u64 a7) := (h.blk.cell 7).trans (by rw [hcs]; rfl)
  have p8 : w.cell? ⟨p, 8, none⟩ = some (.int .i64 t.owns) := (h.blk.cell 8).trans (by rw [hcs]; rfl)
  have p9 : w.cell? ⟨p, 9, none⟩ = some (.bool t.st) := (h.blk.cell 9).trans (by rw [hcs]; rfl)
  have p10 : w.cell? ⟨p, 10, none⟩ = some (.bool t.ki) := (h.blk.cell 10).trans (by rw [hcs]; rfl)
  have p11 : w.cell? ⟨p, 11, none⟩ = some (.slice LA t.frames.length Lc) := (h.blk.cell 11).trans (by rw [hcs]; rfl)
  have p12 : w.cell? ⟨p, 12, none⟩ = some (.slice LB t.hs.length Ld) := (h.blk.cell 12).trans (by rw [hcs]; rfl)
  have hzp := h.blk.lt
  have HCS := Lib.hid hcs
  clear htold hcs
  go_enter Try.func18, Try.ntmps18
  have hblk := h.blk
  rw [HCS.out] at hblk
  go_upto_region 4 with (refine wpList_load_row (o := ⟨some 11, _, _, _, _, _⟩) rfl 45 (.tmp 10) rfl p rfl 45 _ (0, 0) _ hblk Try.underlying45 rfl (by kernel_rfl) ?_)
  clear hblk
  obtain ⟨W1, hW1, hB, hb1⟩ : ∃ W1, w.alloc (.cells #[.int .u64 a0, .int .u64 a1, .int .u64 a2, .int .u64 a3, .int .u64 a4, .int .u64 a5, .int .u64 a6, .int .u64 a7, .int .i64 t.owns, .bool t.st, .bool t.ki, .slice LA t.frames.length Lc, .slice LB t.hs.length Ld] 45) = W1 ∧ Blk W1 w.heap.size 45 (thc t ⟨Lp, LA, Lc, LB, Ld⟩).toArray ∧ Below w.heap.size w W1 := ⟨_, rfl, by rw [HCS.out]; exact Blk.new _ _ _, bnew (brefl w) _⟩
  rw [hW1]
  clear hW1
  have p12 := keep_below p12 hb1
  have hsl : Sl us w LB t.hs.length Ld t.hs := Sl.of_own us_len (by decide) (by rw [us_map]; exact h.hs)
  have hsc := sclone_any (hsl.below hb1) (by omega)
  have hcB : ∀ (W : World), Below W1.heap.size W1 W → (W.cell? ⟨w.heap.size, 11, none⟩ = some (.slice LA t.frames.length Lc) ∧ W.cell? ⟨w.heap.size, 12, none⟩ = some (.slice LB t.hs.length Ld) ∧ W.frozen? ⟨w.heap.size, 11, none⟩ = false ∧ W.frozen? ⟨w.heap.size, 12, none⟩ = false ∧ w.heap.size < W.heap.size) := fun W hb => by
    have hB' := hB.below_ hb
    exact ⟨(hB'.cell 11).trans (by rw [HCS.out]; rfl), (hB'.cell 12).trans (by rw [HCS.out]; rfl), hB'.frozen 11, hB'.frozen 12, hB'.lt⟩
  clear p0 p1 p2 p3 p4 p5 p6 p7 p8 p9 p10 hsl
  go_upto_region 5 with (go_at_call 21; refine hsc.mono ?_; rintro e w2 ⟨A2, c2, rfl, own2, hb2⟩; obtain ⟨n11, n12, nf11, nf12, nz⟩ := hcB _ hb2)
  have ht0 := clone_start w.heap.size h.t8 (hB.below_ hb2) (Nat.le_refl _) (own_base own2 hb1.size)
  have kb0 : Below w.heap.size w ((w2.setCell ⟨w.heap.size, 11, none⟩ (.slice none 0 0)).setCell ⟨w.heap.size, 12, none⟩ (.slice A2 t.hs.length c2)) := bset (bset (bnext hb1 hb2) (Nat.le_refl _) _) (Nat.le_refl _) _
  generalize hW3 : (w2.setCell ⟨w.heap.size, 11, none⟩ (.slice none 0 0)).setCell ⟨w.heap.size, 12, none⟩ (.slice A2 t.hs.length c2) = W3 at *
  clear hW3 hsc hcB p12 hB hb1 n11 n12 nf11 nf12 nz own2 hb2
  have p11 := keep_below p11 kb0
  go_wp2_with fail
  go_loopg [24] t.frames.length (fun gk i wr => ∃ (k : Nat) (L' : TL), k + gk = t.frames.length ∧ i = .int .i64 k ∧ TBox wr w.heap.size w.heap.size { t with frames := t.frames.take k } L' ∧ Below w.heap.size w wr)
  case atStart => exact ⟨0, _, by omega, rfl, ht0, kb0⟩
  case round =>
    clear ht0 kb0 p11
    obtain ⟨k, L', hk, rfl, ht, kb⟩ := hrel
    by_cases hlt : k < t.frames.length
    · obtain ⟨f, hf⟩ : ∃ f, t.frames[k]? = some f := ⟨t.frames[k]'hlt, List.getElem?_eq_getElem (i := k) _⟩
      obtain ⟨q, hq, hbq⟩ := h.fr k f hf
      obtain ⟨g, hA, hg1, hg2, _, hc⟩ := own_form1 h.fs (by omega)
      have cg := keep_below (hc k (.pointer (some ⟨q, 0, none⟩)) (by simp [hq])) kb
      have hbq := hbq.below_ kb
      have hr16 := h.r16 f (List.mem_of_getElem? hf)
      have HS : Hid (t.frames.take (k + 1) = t.frames.take k ++ [f]) := by rw [Hid, List.take_add_one, hf]; rfl
      obtain ⟨fn, fat, fr⟩ := f
      obtain ⟨r0, r1, r2, r3, r4, r5, r6, r7, r8, r9, r10, r11, r12, r13, r14, r15, hfr⟩ := len16r hr16
      have hfr : fr = [r0, r1, r2, r3, r4, r5, r6, r7, r8, r9, r10, r11, r12, r13, r14, r15] := hfr
      subst hfr
      have b0 : (0 : Int) ≤ (k : Int) := by omega
      have b1 : (k : Int) < (t.frames.length : Int) := by omega
      have hktl : (t.frames.take k).length = k := by simp; omega
      have k11 := ht.c11
      have hfs := ht.fs
      have hcc := thc_hi (L := L') ht.t8 3
      have hgo := fun {w2 w8 : World} (o : Obj) {A : Option Addr} {c : Nat} => call_goes (w2 := w2) (w8 := w8) ht ⟨fn, fat, [r0, r1, r2, r3, r4, r5, r6, r7, r8, r9, r10, r11, r12, r13, r14, r15]⟩ rfl o (A := A) (c := c) kb.size
      have hbk := fun {w2 : World} (hb2 : Below wr.heap.size wr w2) (o : Obj) {w8 : World} (hg : (w2.alloc o).grownBy w8 (Value.slice L'.A (t.frames.take k).length L'.c).ownBlock) => (Keeps.of_grown hg).blk ((ht.below hb2).below (bnew (brefl w2) o)).blk (own_ne_blk ((ht.below hb2).below (bnew (brefl w2) o)).fs ((ht.below hb2).below (bnew (brefl w2) o)).blk (by decide))
      dsimp only at k11 hfs hcc hgo
      rw [hktl] at k11 hfs hcc hgo hbk
      generalize (L'.ptrs.map fun q => Value.pointer (some ⟨q, 0, none⟩)) = xs at *
      generalize (thc { t with frames := t.frames.take k } L').toArray = tcs at *
      have hA : LA = some ⟨g, 0, none⟩ := hA
      subst hA
      have hbqE : Blk wr q 40 #[.int .i64 fn, .int .i64 fat, .int .u64 r0, .int .u64 r1, .int .u64 r2, .int .u64 r3, .int .u64 r4, .int .u64 r5, .int .u64 r6, .int .u64 r7, .int .u64 r8, .int .u64 r9, .int .u64 r10, .int .u64 r11, .int .u64 r12, .int .u64 r13, .int .u64 r14, .int .u64 r15] := hbq
      clear hc hg1 hg2 hf hq hbq hr16 hktl
      go_upto_region 9 with (refine wpList_load_row (o := ⟨some 30, _, _, _, _, _⟩) rfl 40 (.tmp 29) rfl q rfl 40 _ (0, 0) _ hbqE Try.underlying40 rfl (by kernel_rfl) ?_)
      clear hbqE
      have hb2 : Below wr.heap.size wr (wr.alloc (.cells #[.int .i64 fn, .int .i64 fat, .int .u64 r0, .int .u64 r1, .int .u64 r2, .int .u64 r3, .int .u64 r4, .int .u64 r5, .int .u64 r6, .int .u64 r7, .int .u64 r8, .int .u64 r9, .int .u64 r10, .int .u64 r11, .int .u64 r12, .int .u64 r13, .int .u64 r14, .int .u64 r15] 40)) := bnew (brefl wr) _
      have hq2 : Blk (wr.alloc (.cells #[.int .i64 fn, .int .i64 fat, .int .u64 r0, .int .u64 r1, .int .u64 r2, .int .u64 r3, .int .u64 r4, .int .u64 r5, .int .u64 r6, .int .u64 r7, .int .u64 r8, .int .u64 r9, .int .u64 r10, .int .u64 r11, .int .u64 r12, .int .u64 r13, .int .u64 r14, .int .u64 r15] 40)) wr.heap.size 40 (frc ⟨fn, fat, [r0, r1, r2, r3, r4, r5, r6, r7, r8, r9, r10, r11, r12, r13, r14, r15]⟩).toArray := Blk.new _ _ _
      have k11 := keep_below k11 hb2
      have hfs2 := own_below hfs hb2
      generalize (wr.alloc (.cells #[.int .i64 fn, .int .i64 fat, .int .u64 r0, .int .u64 r1, .int .u64 r2, .int .u64 r3, .int .u64 r4, .int .u64 r5, .int .u64 r6, .int .u64 r7, .int .u64 r8, .int .u64 r9, .int .u64 r10, .int .u64 r11, .int .u64 r12, .int .u64 r13, .int .u64 r14, .int .u64 r15] 40)) = w2 at *
      have hsz := hb2.size
      have hsw := kb.size
      clear hfs cg
      go_wp2_with (at_builtin; refine wpList_app (v := .slice L'.A k L'.c) (ys := [.pointer (some ⟨wr.heap.size, 0, none⟩)]) (m := 1) E rfl (.tmp 32) (.tmp 33) rfl w.heap.size rfl (hfs2.alloc _) rfl rfl (Rd.new _ _ _ rfl) (by simp [Value.oneCell']) (by unfold maxLen; omega) (by omega) (by simp; omega) ?_; intro A8 c8 w8 own8 hg8 ho8; have hb8 := hbk hb2 _ hg8; have k8 : w8.cell? ⟨w.heap.size, 11, none⟩ = some _ := hb8.cell_ hcc; have f8 := hb8.frozen 11)
      have hg9 := hgo _ hb2 hq2 own8 hg8 (ho8.imp id fun e => by simpa using e)
      obtain ⟨L9, h9, kb9, _⟩ := Goes.up kb kb.size (Nat.le_refl _) ht hg9
      go_roundg (gk - 1)
      case measure => omega
      case rel =>
        refine ⟨k + 1, L9, by omega, by go_num, ?_, kb9⟩
        rw [HS.out]
        exact h9
    · have hge : ¬ ((k : Int) < (t.frames.length : Int)) := by omega
      have htk : t.frames.take k = t.frames := List.take_of_length_le (by omega)
      rw [htk] at ht
      clear htk h hlt
      go_wp2
      go_ret
      exact ⟨rfl, ⟨L', ht⟩, kb⟩
end Go.Proofs.Ytclhlgeicfhdiaa
