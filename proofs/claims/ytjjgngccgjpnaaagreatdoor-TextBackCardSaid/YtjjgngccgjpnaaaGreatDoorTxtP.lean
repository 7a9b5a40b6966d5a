/- A line is cut off, cut into words, and tried. -/
import Derived.Test.YtjjgngccgjpnaaaGreatDoorTxtO
namespace Go.Proofs.YtjjgngccgjpnaaaGreatDoor
set_option linter.unusedVariables false
set_option linter.unusedSimpArgs false
open Go.RowKit

theorem bstr_l (l : List UInt8) : (bstr l).data.toList = l := rfl
theorem bstr_back (s : ByteArray) : bstr s.data.toList = s := rfl
theorem spl_count (c : UInt8) : ∀ (n : Nat) (s : List UInt8), s.length ≤ n → (spl c s).length = Lib.count s [c] + 1
  | n, s, hn => by
    have hi := index_brk c s
    rw [spl_brk]
    cases hb : brk c s with
    | none =>
      rw [hb] at hi
      rw [Lib.count_miss hi]
      rfl
    | some p =>
      rw [hb] at hi
      have hs := brk_eq hb
      have hd : s.drop (p.1.length + [c].length) = p.2 := by
        conv => lhs; rw [hs]
        simp [List.drop_append]
      have hl : p.2.length < s.length := by
        conv => rhs; rw [hs]
        simp
        omega
      rw [Lib.count_hit (by simp) hi, hd]
      match n, hn with
      | 0, hn => omega
      | m + 1, hn =>
        have := spl_count c m p.2 (by omega)
        simp only [List.length_cons, this]
        omega
theorem cut_none {w : World} {t : List UInt8} (h : LV w) (hl : t.length ≤ 1000000) (hb : brk 10 t = none) : Calls Tryz.prog 22 #[.string (bstr t), .string ⟨#[10]⟩] w fun e w' => e = .returned (.tuple #[.string (bstr t), .string ⟨#[]⟩, .bool false]) ∧ ∃ n, w' = w.drewN n := by
  obtain ⟨m, hm⟩ := h.m
  have hc := Tryz.strings_Cut (bstr t) ⟨#[10]⟩ m w (by rw [bstr_size]; omega) hm
  have e : Lib.cut (bstr t).data.toList (⟨#[10]⟩ : ByteArray).data.toList = (t, [], false) := by
    have := cut_brk 10 t
    rw [hb] at this
    exact this
  rw [e] at hc
  exact hc
theorem cut_some {w : World} {t : List UInt8} {p : List UInt8 × List UInt8} (h : LV w) (hl : t.length ≤ 1000000) (hb : brk 10 t = some p) : Calls Tryz.prog 22 #[.string (bstr t), .string ⟨#[10]⟩] w fun e w' => e = .returned (.tuple #[.string (bstr p.1), .string (bstr p.2), .bool true]) ∧ ∃ n, w' = w.drewN n := by
  obtain ⟨m, hm⟩ := h.m
  have hc := Tryz.strings_Cut (bstr t) ⟨#[10]⟩ m w (by rw [bstr_size]; omega) hm
  have e : Lib.cut (bstr t).data.toList (⟨#[10]⟩ : ByteArray).data.toList = (p.1, p.2, true) := by
    have := cut_brk 10 t
    rw [hb] at this
    exact this
  rw [e] at hc
  exact hc
theorem split_any {w : World} (l : List UInt8) (h : LV w) (hl : l.length ≤ 1000000) : Calls Tryz.prog 23 #[.string (bstr l), .string ⟨#[32]⟩] w fun e w' => e = .returned (.slice (some ⟨w.heap.size, 0, none⟩) (spl 32 l).length (spl 32 l).length) ∧ w' = w.alloc (.cells ((spl 32 l).map fun x => Value.string (bstr x)).toArray 9) := by
  obtain ⟨m, hm⟩ := h.m
  have hc := Tryz.strings_Split (bstr l) ⟨#[32]⟩ m w (by rw [bstr_size]; omega) hm (by decide)
  have e1 : Lib.countB (bstr l) (⟨#[32]⟩ : ByteArray) + 1 = (spl 32 l).length := (spl_count 32 l.length l (Nat.le_refl _)).symm
  have e2 : (Lib.splitB (⟨#[32]⟩ : ByteArray) 0 (Lib.countB (bstr l) ⟨#[32]⟩) (bstr l)).map Value.string = (spl 32 l).map fun x => Value.string (bstr x) := by
    have h1 := Lib.splitB_data (⟨#[32]⟩ : ByteArray) 0 (Lib.countB (bstr l) ⟨#[32]⟩) (bstr l)
    have h2 : Lib.splitK (⟨#[32]⟩ : ByteArray).data.toList 0 (Lib.countB (bstr l) ⟨#[32]⟩) (bstr l).data.toList = spl 32 l := split_spl 32 l.length l (Nat.le_refl _)
    rw [h2] at h1
    rw [← h1, List.map_map]
    rfl
  rw [e1, e2] at hc
  exact hc
theorem TK.keepsT {w w' : World} {B tb N : Nat} {s : St} {S : Nat → Prop} (h : TK w B tb s N) (hk : Keeps S w w') (hS : ∀ b, S b → b < w.heap.size → ∃ t cs, Blk w b t cs ∧ 63 ≠ t ∧ 51 ≠ t ∧ 61 ≠ t) : TK w' B tb s N := by
  obtain ⟨vs, EA, ec, h1, h2, h3⟩ := h.e
  refine ⟨⟨vs, EA, ec, hk.blk h1 fun hs => ?_, h2.keepsT hk fun b hb hl => ?_, hk.own h3 fun k hk' hs => ?_⟩, h.ps, h.es, h.th, h.n, h.tb⟩
  · obtain ⟨t, cs, hb, hne, _⟩ := hS _ hs h1.lt
    exact Blk.ne_ h1 hb hne rfl
  · obtain ⟨t, cs, hb, _, hne, _⟩ := hS _ hb hl
    exact ⟨t, cs, hb, hne⟩
  · obtain ⟨t, cs, hb, _, _, hne⟩ := hS _ hs (own_lt h3 k hk')
    exact own_ne_blk h3 hb hne hk'
theorem KT.alloc {B : Nat} {w : World} (hB : B ≤ w.heap.size) (o : Obj) : KT B w (w.alloc o) := KT.of hB ((Keeps.refl (fun _ => False) w).alloc o) (fun b e => e.elim) (fun b e => e.elim)
theorem KT.try_ {B : Nat} {w w1 w2 : World} {o : Obj} (h : KT B (w.alloc o) w1) (hk : Keeps (fun b => b = w.heap.size) w1 w2) (hB : B ≤ w.heap.size) : KT B w w2 := by
  have h0 := (KT.alloc hB o).trans h
  exact ⟨hk.below h0.b (Nat.le_trans hB h0.s) (fun x e _ => by rw [e]; exact hB), Nat.le_trans h0.s hk.size, fun q T cs h1 h2 h3 h4 h5 => hk.blk (h0.k q T cs h1 h2 h3 h4 h5) (fun e => by have := h5.lt; omega)⟩
/-- What a try of a line leaves. -/
def TryR (w : World) (B tb N : Nat) (x : Option St) (e : Ending) (w' : World) : Prop := KT B w w' ∧ match x with
  | none => e = .returned (.bool false)
  | some s => e = .returned (.bool true) ∧ TK w' B tb s N
theorem confline_any {w : World} {B rb gw tb : Nat} {ws : Wd} (h : RBd w rb gw ws 0) (hT : TK w B tb st0 0) (hv : LVB B w) (hB : B ≤ rb) : Calls Tryz.prog 27 #[.pointer (some ⟨tb, 0, none⟩), .pointer (some ⟨rb, 0, none⟩)] w (LineR w B tb (0 + 1) ((pConf ws).map fun c => { st0 with c := c })) := by
  obtain ⟨vs, EA, ec, hTb, hO, hE⟩ := hT.e
  have h8 := hO.u8
  have e0 : ∀ c, tkc { st0 with c := c } vs (.slice EA st0.es.length ec) = cfc c ++ ((vs ++ [Value.slice EA st0.es.length ec]) ++ [Value.int .i64 0, Value.bool false, Value.int .i64 (-1), Value.int .i64 0]) := fun c => by
    unfold tkc scc
    rw [List.append_assoc]
    rfl
  have hTb' : Blk w tb 63 (cfc cf0 ++ ((vs ++ [Value.slice EA st0.es.length ec]) ++ [Value.int .i64 0, Value.bool false, Value.int .i64 (-1), Value.int .i64 0])).toArray := by
    rw [← e0]
    exact hTb
  refine (conf_any (by simp [h8]) h hTb' hv hB hT.tb).mono ?_
  rintro e w' ⟨hk, hx⟩
  have hty : ∀ b, K2 rb tb b → b < w.heap.size → ∃ t cs, Blk w b t cs ∧ (t = 70 ∨ t = 63) := fun b e _ => by
    rcases e with rfl | rfl
    · exact ⟨_, _, h.b, .inl rfl⟩
    · exact ⟨_, _, hTb, .inr rfl⟩
  refine ⟨KT.of hv.le hk (fun b e => ?_) (fun b e hb => ?_), ?_⟩
  · rcases e with rfl | rfl
    · exact hB
    · exact hT.tb
  · obtain ⟨t, cs, q1, q2⟩ := hty b e hb
    exact ⟨t, cs, q1, by rcases q2 with q2 | q2; exact .inr (.inl q2); exact .inl q2⟩
  · cases hp : pConf ws with
    | none =>
      rw [hp] at hx
      exact hx
    | some c =>
      rw [hp] at hx
      refine ⟨hx.1, ⟨vs, EA, ec, ?_, hO.keepsT hk (fun b e hb => ?_), hk.own hE (fun q hq e => ?_)⟩, fun l hl => Nat.le_succ_of_le (hT.ps l hl), Nat.le_trans hT.es (by omega), pConf_th hp, by omega, hT.tb⟩
      · have := hx.2
        rw [← e0] at this
        exact this
      · obtain ⟨t, cs, q1, q2⟩ := hty b e hb
        exact ⟨t, cs, q1, by rcases q2 with q2 | q2 <;> rw [q2] <;> decide⟩
      · rcases e with rfl | rfl
        · exact own_ne_blk hE h.b (by decide) hq
        · exact own_ne_blk hE hTb (by decide) hq
set_option maxHeartbeats 4000000 in
set_option maxRecDepth 100000 in
theorem tryl_any {w : World} {B p5 p10 tb rb gw N : Nat} {ws : Wd} {s : St} (h5 : w.cell? ⟨p5, 0, none⟩ = some (.pointer (some ⟨tb, 0, none⟩))) (h10 : w.cell? ⟨p10, 0, none⟩ = some (.pointer (some ⟨rb, 0, none⟩))) (hR : RBd w rb gw ws 0) (hT : TK w B tb s N) (hv : LVB B w) (hB : B ≤ rb) (hN : N + 1 ≤ 1000000) :
    Calls Tryz.prog 28 #[.func (.func 24) #[] #[.pointer (some ⟨p5, 0, none⟩), .pointer (some ⟨p10, 0, none⟩)]] w (TryR w B tb (N + 1) (pLine s ws)) := by
  have hb := bnew (brefl w) (.cells #[.bool false] 4)
  have hBO := Blk.new w 4 #[.bool false]
  have hv1 : LVB B (w.alloc (.cells #[.bool false] 4)) := hv.keeps (Keeps.of_below (S := fun _ => False) hb) (fun b e => e.elim)
  have hle := hv.le
  have hl : Calls Tryz.prog 25 #[.pointer (some ⟨tb, 0, none⟩), .pointer (some ⟨rb, 0, none⟩)] (w.alloc (.cells #[.bool false] 4)) (LineR (w.alloc (.cells #[.bool false] 4)) B tb (N + 1) (pLine s ws)) := line_any (hR.below hb) (hT.below hb) hv1 hB hN
  have q5 := keep_below h5 hb
  have q10 := keep_below h10 hb
  cases hx : pLine s ws with
  | none =>
    rw [hx] at hl
    have hc := take1_no (Y := fun w' => Blk w' w.heap.size 4 #[.bool false] ∧ KT B (w.alloc (.cells #[.bool false] 4)) w') q5 q10 (hl.mono fun e w' h => ⟨h.2, h.1.k _ _ _ (by decide) (by decide) (by decide) (by decide) hBO, h.1⟩)
    exact (try_no_l hc).mono fun e w' h => ⟨(KT.alloc hle _).trans h.2, h.1⟩
  | some s1 =>
    rw [hx] at hl
    have hc := take1_yes (Y := fun w' => Blk w' w.heap.size 4 #[.bool false] ∧ Blk w' w.heap.size 4 #[.bool false] ∧ KT B (w.alloc (.cells #[.bool false] 4)) w' ∧ TK w' B tb s1 (N + 1)) q5 q10 (hl.mono fun e w' h => by
      have hbo := h.1.k _ _ _ (by decide) (by decide) (by decide) (by decide) hBO
      exact ⟨h.2.1, hbo, hbo, h.1, h.2.2⟩)
    refine (try_yes_l hc).mono fun e w2 h => ?_
    obtain ⟨he, w1, ⟨h1, h2, h3⟩, hk⟩ := h
    exact ⟨KT.try_ h2 hk hle, he, h3.keepsT hk fun b e _ => ⟨_, _, e ▸ h1, by decide, by decide, by decide⟩⟩

set_option maxHeartbeats 4000000 in
set_option maxRecDepth 100000 in
theorem tryc_any {w : World} {B p5 p10 tb rb gw N : Nat} {ws : Wd} {s : St} (h5 : w.cell? ⟨p5, 0, none⟩ = some (.pointer (some ⟨tb, 0, none⟩))) (h10 : w.cell? ⟨p10, 0, none⟩ = some (.pointer (some ⟨rb, 0, none⟩))) (hR : RBd w rb gw ws 0) (hT : TK w B tb s N) (hv : LVB B w) (hB : B ≤ rb) (hN : N + 1 ≤ 1000000) (hs : s = st0) (hN0 : N = 0) :
    Calls Tryz.prog 28 #[.func (.func 26) #[] #[.pointer (some ⟨p5, 0, none⟩), .pointer (some ⟨p10, 0, none⟩)]] w (TryR w B tb (N + 1) ((pConf ws).map fun c => { st0 with c := c })) := by
  have hb := bnew (brefl w) (.cells #[.bool false] 4)
  have hBO := Blk.new w 4 #[.bool false]
  have hv1 : LVB B (w.alloc (.cells #[.bool false] 4)) := hv.keeps (Keeps.of_below (S := fun _ => False) hb) (fun b e => e.elim)
  have hle := hv.le
  have hl : Calls Tryz.prog 27 #[.pointer (some ⟨tb, 0, none⟩), .pointer (some ⟨rb, 0, none⟩)] (w.alloc (.cells #[.bool false] 4)) (LineR (w.alloc (.cells #[.bool false] 4)) B tb (N + 1) ((pConf ws).map fun c => { st0 with c := c })) := by subst hs; subst hN0; exact confline_any (hR.below hb) (hT.below hb) hv1 hB
  have q5 := keep_below h5 hb
  have q10 := keep_below h10 hb
  cases hx : (pConf ws).map fun c => { st0 with c := c } with
  | none =>
    rw [hx] at hl
    have hc := take2_no (Y := fun w' => Blk w' w.heap.size 4 #[.bool false] ∧ KT B (w.alloc (.cells #[.bool false] 4)) w') q5 q10 (hl.mono fun e w' h => ⟨h.2, h.1.k _ _ _ (by decide) (by decide) (by decide) (by decide) hBO, h.1⟩)
    exact (try_no_c hc).mono fun e w' h => ⟨(KT.alloc hle _).trans h.2, h.1⟩
  | some s1 =>
    rw [hx] at hl
    have hc := take2_yes (Y := fun w' => Blk w' w.heap.size 4 #[.bool false] ∧ Blk w' w.heap.size 4 #[.bool false] ∧ KT B (w.alloc (.cells #[.bool false] 4)) w' ∧ TK w' B tb s1 (N + 1)) q5 q10 (hl.mono fun e w' h => by
      have hbo := h.1.k _ _ _ (by decide) (by decide) (by decide) (by decide) hBO
      exact ⟨h.2.1, hbo, hbo, h.1, h.2.2⟩)
    refine (try_yes_c hc).mono fun e w2 h => ?_
    obtain ⟨he, w1, ⟨h1, h2, h3⟩, hk⟩ := h
    exact ⟨KT.try_ h2 hk hle, he, h3.keepsT hk fun b e _ => ⟨_, _, e ▸ h1, by decide, by decide, by decide⟩⟩

end Go.Proofs.YtjjgngccgjpnaaaGreatDoor
