/- A line of words, by the document: what it makes. -/
import Derived.Test.YtjjgngccgjpnaaaGreatDoorTxtX
import Derived.Deep.Cut
import Derived.Deep.CutRange
import Derived.Deep.DeepCutAuto
namespace Go.Proofs.YtjjgngccgjpnaaaGreatDoor
set_option linter.unusedVariables false
set_option linter.unusedSimpArgs false
open Go.RowKit

def whatG : Nat → Nat → List UInt8 → Option Nat
  | 0, _, _ => none
  | g + 1, k, f => if wd4 k = f then some k else whatG g (k + 1) f
def whatOf (f : List UInt8) : Option Nat := whatG 4 0 f
/-- The entries of a line that isn't a call. -/
def rMany (wh : Nat) (ns : List Int) : Int := if wh = 0 then ns.getD 1 0 else 1
def rOther (s : St) (ws : Wd) : Option St := (numsI (ws.drop 1)).bind fun ns => (whatOf (ws.getD 0 [])).bind fun wh => if (wh = 0 → ns.length = 2) ∧ (0 < wh → ns.length = 1) ∧ 0 ≤ ns.getD 0 0 ∧ ns.getD 0 0 < s.c.th ∧ (wh = 0 → 1 ≤ rMany wh ns ∧ ¬ (s.done = true ∧ s.was = ⟨ns.getD 0 0, 0⟩)) then some { s with done := true, was := ⟨ns.getD 0 0, (wh : Int)⟩, es := s.es ++ List.replicate (min (rMany wh ns).toNat (60001 - s.es.length)) ⟨ns.getD 0 0, (wh : Int)⟩ } else none
def rCallL (s : St) (ws : Wd) : Option St := (rCall ws).bind fun x => if 0 ≤ x.1 ∧ x.1 < s.c.th ∧ s.last ≤ x.1 ∧ s.done = false then some { s with last := x.1, ps := s.ps.set x.1.toNat (s.ps.getD x.1.toNat [] ++ [x.2]) } else none
def rLine (s : St) (ws : Wd) : Option St := if ws.getD 0 [] = callB then rCallL s ws else rOther s ws
/-- The document's script so far, as it lies in memory. -/
def rtc (s : St) (us : List Value) (ev : Value) : List Value := scc s.c us ev ++ [.int .i64 s.last, .int .i64 s.was.th, .int .i64 s.was.wh, .bool s.done]
theorem rtc_len {s : St} {us : List Value} {ev : Value} (h : us.length = 8) : (rtc s us ev).length = 27 := by
  unfold rtc
  rw [List.length_append, scc_len h]
  rfl
theorem rtc_get {s : St} {us : List Value} {ev : Value} (h : us.length = 8) (j : Nat) : (rtc s us ev)[23 + j]? = ([.int .i64 s.last, .int .i64 s.was.th, .int .i64 s.was.wh, .bool s.done] : List Value)[j]? := by
  unfold rtc
  rw [List.getElem?_append_right (by rw [scc_len h]; omega), scc_len h, Nat.add_sub_cancel_left]
theorem rtc_row {s : St} {us : List Value} {ev v : Value} (h : us.length = 8) {j : Nat} (hv : us[j]? = some v) : (rtc s us ev)[14 + j]? = some v := by
  have hj := (List.getElem?_eq_some_iff.1 hv).1
  unfold rtc
  rw [List.getElem?_append_left (by rw [scc_len h]; omega)]
  exact scc_get hv
theorem rtc_ent {s : St} {us : List Value} {ev : Value} (h : us.length = 8) : (rtc s us ev)[22]? = some ev := by
  unfold rtc
  rw [List.getElem?_append_left (by rw [scc_len h]; omega)]
  exact scc_last h
theorem rtc_last {s : St} {us : List Value} {ev : Value} (h : us.length = 8) (v : Int) : (rtc s us ev).set 23 (.int .i64 v) = rtc { s with last := v } us ev := by
  unfold rtc
  rw [List.set_append_right _ _ (by rw [scc_len h]; omega), scc_len h]
  rfl
theorem rtc_done {s : St} {us : List Value} {ev : Value} (h : us.length = 8) (v : Bool) : (rtc s us ev).set 26 (.bool v) = rtc { s with done := v } us ev := by
  unfold rtc
  rw [List.set_append_right _ _ (by rw [scc_len h]; omega), scc_len h]
  rfl
theorem rtc_was {s : St} {us : List Value} {ev : Value} (h : us.length = 8) (a b : Int) : ((rtc s us ev).set 24 (.int .i64 a)).set 25 (.int .i64 b) = rtc { s with was := ⟨a, b⟩ } us ev := by
  unfold rtc
  rw [List.set_append_right _ _ (by rw [scc_len h]; omega), List.set_append_right _ _ (by rw [scc_len h]; omega), scc_len h]
  rfl
theorem rtc_setp {s : St} {us : List Value} {ev : Value} (h : us.length = 8) {j : Nat} (hj : j < 8) (v : Value) (ps : List (List CV)) : (rtc s us ev).set (14 + j) v = rtc { s with ps := ps } (us.set j v) ev := by
  unfold rtc
  rw [List.set_append_left _ _ (by rw [scc_len h]; omega), scc_set (by omega)]
theorem rtc_sete {s : St} {us : List Value} {ev v : Value} (h : us.length = 8) (es : List En) : (rtc s us ev).set 22 v = rtc { s with es := es } us v := by
  unfold rtc
  rw [List.set_append_left _ _ (by rw [scc_len h]; omega), scc_setl h]
theorem rtc_one {S : Nat → Prop} {w : World} {s : St} {us : List Value} {ps : List (List CV)} (h : PIn S w us ps) (A : Option Addr) (m d : Nat) : (rtc s us (.slice A m d)).toArray.all (·.oneCell') = true := by
  rw [Array.all_eq_true_iff_forall_mem]
  intro v hv
  have hv : v ∈ rtc s us (.slice A m d) := by simpa using hv
  unfold rtc at hv
  rcases List.mem_append.1 hv with hv | hv
  · have := scc_one (c := s.c) h A m d
    rw [Array.all_eq_true_iff_forall_mem] at this
    exact this v (by simpa using hv)
  · simp only [List.mem_cons, List.not_mem_nil, or_false] at hv
    rcases hv with rfl | rfl | rfl | rfl <;> rfl
structure RT (w : World) (B : Nat) (s : St) (us : List Value) (EA : Option Addr) (ec N : Nat) : Prop where
  o : OW w B us s.ps
  e : w.ownsRow B 61 2 (.slice EA s.es.length ec) s.es.length (s.es.flatMap enc_)
  ps : ∀ l, l ∈ s.ps → l.length ≤ N
  es : s.es.length ≤ 60001
  th : s.c.th ≤ 8
def eblk (EA : Option Addr) (n ec : Nat) : Nat → Prop := fun b => (Value.slice EA n ec).ownBlock = some b
def RLineR (w : World) (B N : Nat) (s : St) (us : List Value) (EA : Option Addr) (ec : Nat) (x : Option St) (e : Ending) (w' : World) : Prop := Keeps (eblk EA s.es.length ec) w w' ∧ match x with
  | none => e = .returned (.tuple #[.agg (rtc s us (.slice EA s.es.length ec)).toArray, .bool false])
  | some s' => ∃ us' EA' ec', e = .returned (.tuple #[.agg (rtc s' us' (.slice EA' s'.es.length ec')).toArray, .bool true]) ∧ RT w' B s' us' EA' ec' (N + 1)
theorem results_line {fn : Func} {p q : Tmp} {tmps : Array Value} {w : World} {a : Nat} {cs : Array Value} {x : Value} (h : fn.results = #[.cell p 76, .tmp q]) (h1 : tmps.getD p undef = .pointer (some ⟨a, 0, none⟩)) (h2 : tmps.getD q undef = x) (ha : Blk w a 76 cs) (hs : (Tryz.prog.info? 76).map (·.size) = some cs.size) : (results fn tmps).run Tryz.prog w = .ok (.tuple #[.agg cs, x]) w := by
  have h1' : tmps[p]?.getD undef = .pointer (some ⟨a, 0, none⟩) := by simpa using h1
  have h2' : tmps[q]?.getD undef = x := by simpa using h2
  have hl := run_loadVar_row w a 76 76 cs (0, 0) _ ha Tryz.underlying76 rfl hs
  simp [results, h, h1', h2', asAddr, hl]
theorem info_rtc {s : St} {us : List Value} {ev : Value} (h : us.length = 8) : (Tryz.prog.info? 76).map (·.size) = some (rtc s us ev).toArray.size := by rw [List.size_toArray, rtc_len h]; kernel_rfl
theorem RT.keeps {w w' : World} {B N : Nat} {s : St} {us : List Value} {EA : Option Addr} {ec : Nat} {S : Nat → Prop} (h : RT w B s us EA ec N) (hk : Keeps S w w') (hS : ∀ b, S b → b < w.heap.size → ∃ t cs, Blk w b t cs ∧ 51 ≠ t ∧ 61 ≠ t) : RT w' B s us EA ec N :=
  ⟨h.o.keepsT hk (fun b e hb => by obtain ⟨t, cs, q1, q2, _⟩ := hS b e hb; exact ⟨t, cs, q1, q2⟩), hk.own h.e (fun k hk' e => by
    obtain ⟨t, cs, q1, _, q2⟩ := hS k e (own_lt h.e k hk')
    exact own_ne_blk h.e q1 q2 hk'), h.ps, h.es, h.th⟩
theorem RT.below {w w' : World} {B N : Nat} {s : St} {us : List Value} {EA : Option Addr} {ec : Nat} (h : RT w B s us EA ec N) (hb : Below w.heap.size w w') : RT w' B s us EA ec N := h.keeps (S := fun _ => False) (Keeps.of_below hb) (fun _ e => e.elim)
end Go.Proofs.YtjjgngccgjpnaaaGreatDoor
namespace Go.Proofs.YtjjgngccgjpnaaaGreatDoor
set_option linter.unusedVariables false
set_option linter.unusedSimpArgs false
open Go.RowKit
set_option maxHeartbeats 4000000 in
set_option maxRecDepth 100000 in
theorem rline_call {w : World} {B N n c : Nat} {A EA : Option Addr} {ec : Nat} {ws : Wd} {s : St} {us : List Value} (hT : RT w B s us EA ec N) (hB : B ≤ w.heap.size) (hN : N ≤ 1000000) (h : Sl strc w A n c ws) (h1 : 1 ≤ n) (hl : ∀ x, x ∈ ws → x.length ≤ 1000000) (hcall : ws.getD 0 [] = callB) : Calls Tryz.prog 33 #[.agg (rtc s us (.slice EA s.es.length ec)).toArray, .slice A n c] w (RLineR w B N s us EA ec (rLine s ws)) := by
  obtain ⟨a, ha⟩ : ∃ a, w.heap.size = a := ⟨_, rfl⟩
  have hlen := Lib.hid h.len
  have HS := Lib.hid h
  have HLW := Lib.hid hl
  have HT := Lib.hid hT
  have h8 := hT.o.u8
  have hi := info_rtc (s := s) (us := us) (ev := .slice EA s.es.length ec) h8
  have hone := rtc_one (s := s) hT.o.pin EA s.es.length ec
  have hold : (#[.int .i64 0, .int .i64 0, .int .i64 0, .int .i64 0, .int .i64 0, .int .i64 0, .int .i64 0, .int .i64 0, .int .i64 0, .int .i64 0, .int .i64 0, .int .i64 0, .int .i64 0, .int .i64 0, .slice none 0 0, .slice none 0 0, .slice none 0 0, .slice none 0 0, .slice none 0 0, .slice none 0 0, .slice none 0 0, .slice none 0 0, .slice none 0 0, .int .i64 0, .int .i64 0, .int .i64 0, .bool false] : Array Value).size = (rtc s us (.slice EA s.es.length ec)).toArray.size := by rw [List.size_toArray, List.size_toArray, rtc_len h8]; rfl
  have g1 : (rtc s us (.slice EA s.es.length ec)).toArray[1]? = some (.int .i64 s.c.th) := rfl
  have g23 : (rtc s us (.slice EA s.es.length ec)).toArray[23]? = some (.int .i64 s.last) := by rw [List.getElem?_toArray]; exact rtc_get h8 0
  have g26 : (rtc s us (.slice EA s.es.length ec)).toArray[26]? = some (.bool s.done) := by rw [List.getElem?_toArray]; exact rtc_get h8 3
  obtain ⟨cs, hcs⟩ : ∃ cs, (rtc s us (.slice EA s.es.length ec)).toArray = cs := ⟨_, rfl⟩
  rw [hcs] at hi hone hold g1 g23 g26 ⊢
  have HCS := Lib.hid hcs
  clear h hl hT hcs
  go_enter Tryz.func33, Tryz.ntmps33
  go_upto_region 1 with (fail)
  obtain ⟨W0, hW0, T0, R0, k0, z0⟩ : ∃ W0, (w.alloc (.cells cs 76)).alloc (.cells #[.int .i64 0, .int .i64 0, .int .i64 0, .int .i64 0, .int .i64 0, .int .i64 0, .int .i64 0, .int .i64 0, .int .i64 0, .int .i64 0, .int .i64 0, .int .i64 0, .int .i64 0, .int .i64 0, .slice none 0 0, .slice none 0 0, .slice none 0 0, .slice none 0 0, .slice none 0 0, .slice none 0 0, .slice none 0 0, .slice none 0 0, .slice none 0 0, .int .i64 0, .int .i64 0, .int .i64 0, .bool false] 76) = W0 ∧ Blk W0 a 76 cs ∧ Blk W0 (a + 1) 76 #[.int .i64 0, .int .i64 0, .int .i64 0, .int .i64 0, .int .i64 0, .int .i64 0, .int .i64 0, .int .i64 0, .int .i64 0, .int .i64 0, .int .i64 0, .int .i64 0, .int .i64 0, .int .i64 0, .slice none 0 0, .slice none 0 0, .slice none 0 0, .slice none 0 0, .slice none 0 0, .slice none 0 0, .slice none 0 0, .slice none 0 0, .slice none 0 0, .int .i64 0, .int .i64 0, .int .i64 0, .bool false] ∧ Below w.heap.size w W0 ∧ W0.heap.size = a + 2 := by
    have h1 := Blk.new w 76 cs
    have h2 := Blk.new (w.alloc (.cells cs 76)) 76 #[.int .i64 0, .int .i64 0, .int .i64 0, .int .i64 0, .int .i64 0, .int .i64 0, .int .i64 0, .int .i64 0, .int .i64 0, .int .i64 0, .int .i64 0, .int .i64 0, .int .i64 0, .int .i64 0, .slice none 0 0, .slice none 0 0, .slice none 0 0, .slice none 0 0, .slice none 0 0, .slice none 0 0, .slice none 0 0, .slice none 0 0, .slice none 0 0, .int .i64 0, .int .i64 0, .int .i64 0, .bool false]
    simp only [World.size_alloc, ha] at h1 h2
    exact ⟨_, rfl, h1.alloc _, h2, bnew (bnew (brefl w) _) _, by simp [ha]⟩
  rw [hW0]
  clear hW0
  have HT0 := Lib.hid T0
  have HR0 := Lib.hid R0
  obtain ⟨b, o', rfl, hbb, hcc⟩ := HS.out.base strc_len (by decide) (by omega)
  obtain ⟨f, hf⟩ : ∃ f, ws[0]? = some f := ⟨_, List.getElem?_eq_getElem (by rw [hlen.out]; omega)⟩
  have hf0 : ws.getD 0 [] = f := by rw [List.getD_eq_getElem?_getD, hf]; rfl
  have hc0 : W0.cell? ⟨b, o', none⟩ = some (.string (bstr f)) := keep_below (by
    have := hcc 0 f 0 _ hf rfl
    rwa [Nat.zero_mul, Nat.zero_add, Nat.add_zero] at this) k0
  have hzb := block_lt_of_cell hc0
  have i1 : (0 : Int) < (n : Int) := by omega
  have ef : (bstr f).toList = f := ByteArray.toList_eq _
  clear hcc T0 R0
  have hfb : ((bstr f).toList == [99, 97, 108, 108]) = true := by rw [ef, ← hf0, hcall]; rfl
  have HE0 : Hid (rLine s ws = rCallL s ws) := by rw [Hid, rLine, if_pos hcall]
  have hcn := Lib.hid (rcallw_any (HS.out.below k0) HLW.out)
  obtain ⟨S, hS⟩ : ∃ S, bstr f = S := ⟨_, rfl⟩
  rw [hS] at hfb hc0
  obtain ⟨th, hth⟩ : ∃ v, s.c.th = v := ⟨_, rfl⟩
  obtain ⟨la, hla⟩ : ∃ v, s.last = v := ⟨_, rfl⟩
  obtain ⟨dn, hdn⟩ : ∃ v, s.done = v := ⟨_, rfl⟩
  have HTH := Lib.hid hth
  have HLA := Lib.hid hla
  have HDN := Lib.hid hdn
  rw [hth] at g1
  rw [hla] at g23
  rw [hdn] at g26
  clear ef hf hf0 hS hcall hth hla hdn
  cases hx : rCall ws with
  | none =>
    have HE : Hid (rLine s ws = none) := by rw [Hid, HE0.out, rCallL, hx]; rfl
    have hc1 : Hid (Calls Tryz.prog 69 #[.slice (some ⟨b, o', none⟩) n c] W0 fun e w' => Below W0.heap.size W0 w' ∧ e = .returned (.tuple #[.int .i64 0, .agg #[.int .i64 0, .int .i64 0, .int .i64 0, .int .u64 0, .int .u64 0, .int .u64 0, .int .i64 0], .bool false])) := hcn.out.mono fun e w' q => by
      have q1 := q.1
      have q2 := q.2
      rw [hx] at q2
      exact ⟨q1, q2⟩
    clear hcn hx
    go_upto_region 3 with (go_at_call 69; refine hc1.out.mono ?_; rintro e w1 ⟨hb1, rfl⟩; have A1 := HT0.out.below_ hb1; have R1 := HR0.out.below_ hb1; have y1 := A1.cell_ (i := 1) g1; have y23 := A1.cell_ (i := 23) g23; have y26 := A1.cell_ (i := 26) g26; have za := A1.lt; have kb1 := bnext k0 hb1)
    obtain ⟨W2, hW2, T2, R2, k2⟩ : ∃ W2, w1.alloc (.cells #[.int .i64 0, .int .i64 0, .int .i64 0, .int .u64 0, .int .u64 0, .int .u64 0, .int .i64 0] 51) = W2 ∧ Blk W2 a 76 cs ∧ Blk W2 (a + 1) 76 #[.int .i64 0, .int .i64 0, .int .i64 0, .int .i64 0, .int .i64 0, .int .i64 0, .int .i64 0, .int .i64 0, .int .i64 0, .int .i64 0, .int .i64 0, .int .i64 0, .int .i64 0, .int .i64 0, .slice none 0 0, .slice none 0 0, .slice none 0 0, .slice none 0 0, .slice none 0 0, .slice none 0 0, .slice none 0 0, .slice none 0 0, .slice none 0 0, .int .i64 0, .int .i64 0, .int .i64 0, .bool false] ∧ Below w.heap.size w W2 := ⟨_, rfl, A1.alloc _, R1.alloc _, bnew kb1 _⟩
    rw [hW2]
    clear hW2
    go_upto_region 4 with (fail)
    have tok8 : True := trivial; have tok9 : True := trivial
    go_wp2_with (first | (have _t := tok8; refine wpList_load_row (o := ⟨some 51, _, _, _, _, _⟩) rfl 76 (.tmp 2) rfl a rfl 76 _ _ _ T2 Tryz.underlying76 rfl hi ?_; clear tok8 _t) | (have _t := tok9; refine wpList_store_row (o := ⟨none, .store 76 (.tmp 4) (.tmp 51), _, _, _, _⟩) rfl 76 (.tmp 4) (.tmp 51) rfl (a + 1) _ rfl rfl 76 _ R2 hi hold hone ?_; clear tok9 _t))
    have HX : RLineR w B N s us EA ec (rLine s ws) (.returned (.tuple #[.agg cs, .bool false])) (W2.setRow (a + 1) cs) := by
      rw [HE.out]
      exact ⟨Keeps.of_below ((keeps_row _ _ _).below k2 (by have := Blk.lt R2; omega) (fun x e _ => by have e' : x = a + 1 := e; omega)), by rw [HCS.out]⟩
    exact bodyPost_ret (results_line Tryz.results33 rfl rfl (Blk.row R2 _) hi) rfl HX
  | some x =>
    obtain ⟨t, x⟩ := x
    obtain ⟨op, lv, key, ca, cb, ch, rg⟩ := x
    have ex : ∃ x : CV, x = ⟨op, lv, key, ca, cb, ch, rg⟩ := ⟨_, rfl⟩
    have hc1 : Hid (Calls Tryz.prog 69 #[.slice (some ⟨b, o', none⟩) n c] W0 fun e w' => Below W0.heap.size W0 w' ∧ e = .returned (.tuple #[.int .i64 t, .agg #[.int .i64 op, .int .i64 lv, .int .i64 key, .int .u64 ca, .int .u64 cb, .int .u64 ch, .int .i64 rg], .bool true])) := hcn.out.mono fun e w' q => by
      have q1 := q.1
      have q2 := q.2
      rw [hx] at q2
      exact ⟨q1, q2⟩
    have HE1 : Hid (rLine s ws = if 0 ≤ t ∧ t < s.c.th ∧ s.last ≤ t ∧ s.done = false then some { s with last := t, ps := s.ps.set t.toNat (s.ps.getD t.toNat [] ++ [⟨op, lv, key, ca, cb, ch, rg⟩]) } else none) := by rw [Hid, HE0.out, rCallL, hx]; rfl
    clear hcn hx HE0
    have tok1 : True := trivial
    go_upto_region 3 with (first | (go_at_call 69; refine hc1.out.mono ?_; rintro e w1 ⟨hb1, rfl⟩; have A1 := HT0.out.below_ hb1; have R1 := HR0.out.below_ hb1; have y1 := A1.cell_ (i := 1) g1; have y23 := A1.cell_ (i := 23) g23; have y26 := A1.cell_ (i := 26) g26; have za := A1.lt; have kb1 := bnext k0 hb1) | (have _t := tok1; refine wpList_store_row (o := ⟨none, .store 51 (.tmp 7) (.tmp 25), _, _, _, _⟩) rfl 51 (.tmp 7) (.tmp 25) rfl w1.heap.size _ rfl rfl 51 _ (Blk.new w1 _ _) (by kernel_rfl) (by simp) (by simp [Value.oneCell']) ?_; clear tok1 _t))
    obtain ⟨q, hq⟩ : ∃ q, w1.heap.size = q := ⟨_, rfl⟩
    obtain ⟨W2, hW2, T2, R2, C2, k2, hqa⟩ : ∃ W2, (w1.alloc (.cells #[.int .i64 0, .int .i64 0, .int .i64 0, .int .u64 0, .int .u64 0, .int .u64 0, .int .i64 0] 51)).setRow w1.heap.size #[.int .i64 op, .int .i64 lv, .int .i64 key, .int .u64 ca, .int .u64 cb, .int .u64 ch, .int .i64 rg] = W2 ∧ Blk W2 a 76 cs ∧ Blk W2 (a + 1) 76 #[.int .i64 0, .int .i64 0, .int .i64 0, .int .i64 0, .int .i64 0, .int .i64 0, .int .i64 0, .int .i64 0, .int .i64 0, .int .i64 0, .int .i64 0, .int .i64 0, .int .i64 0, .int .i64 0, .slice none 0 0, .slice none 0 0, .slice none 0 0, .slice none 0 0, .slice none 0 0, .slice none 0 0, .slice none 0 0, .slice none 0 0, .slice none 0 0, .int .i64 0, .int .i64 0, .int .i64 0, .bool false] ∧ Blk W2 q 51 #[.int .i64 op, .int .i64 lv, .int .i64 key, .int .u64 ca, .int .u64 cb, .int .u64 ch, .int .i64 rg] ∧ Below w.heap.size w W2 ∧ a + 1 < q := by
      have kr := keeps_row (w1.alloc (.cells #[.int .i64 0, .int .i64 0, .int .i64 0, .int .u64 0, .int .u64 0, .int .u64 0, .int .i64 0] 51)) w1.heap.size #[.int .i64 op, .int .i64 lv, .int .i64 key, .int .u64 ca, .int .u64 cb, .int .u64 ch, .int .i64 rg]
      have z1 := R1.lt
      refine ⟨_, rfl, kr.blk (A1.alloc _) (by omega), kr.blk (R1.alloc _) (by omega), hq ▸ (Blk.new w1 51 _).row _, kr.below (bnew kb1 _) (by have := kb1.size; simp; omega) (fun x e _ => by have e' : x = w1.heap.size := e; have := kb1.size; omega), by omega⟩
    rw [hW2]
    try rw [hq]
    have HQ := Lib.hid hq
    have RT2 := Lib.hid (HT.out.below k2)
    have HR2 := Lib.hid R2
    clear hW2 y1 y23 y26 za A1 R1 hq
    have y1 := T2.cell_ (i := 1) g1
    have y23 := T2.cell_ (i := 23) g23
    have y26 := T2.cell_ (i := 26) g26
    have za := T2.lt
    have f23 := T2.frozen 23
    by_cases h0 : t < 0
    · have HE : Hid (rLine s ws = none) := by rw [Hid, HE1.out, if_neg (fun q => by omega)]
      clear HE1 g1 g23 g26
      go_upto_region 4 with (fail)
      have tok8 : True := trivial; have tok9 : True := trivial
      go_wp2_with (first | (have _t := tok8; refine wpList_load_row (o := ⟨some 51, _, _, _, _, _⟩) rfl 76 (.tmp 2) rfl a rfl 76 _ _ _ T2 Tryz.underlying76 rfl hi ?_; clear tok8 _t) | (have _t := tok9; refine wpList_store_row (o := ⟨none, .store 76 (.tmp 4) (.tmp 51), _, _, _, _⟩) rfl 76 (.tmp 4) (.tmp 51) rfl (a + 1) _ rfl rfl 76 _ HR2.out hi hold hone ?_; clear tok9 _t))
      have HX : RLineR w B N s us EA ec (rLine s ws) (.returned (.tuple #[.agg cs, .bool false])) (W2.setRow (a + 1) cs) := by
        rw [HE.out]
        exact ⟨Keeps.of_below ((keeps_row _ _ _).below k2 (by have := Blk.lt HR2.out; omega) (fun x e _ => by have e' : x = a + 1 := e; omega)), by rw [HCS.out]⟩
      exact bodyPost_ret (results_line Tryz.results33 rfl rfl (Blk.row HR2.out _) hi) rfl HX
    have t0 : decide (t < 0) = false := decide_eq_false h0
    by_cases h1' : th ≤ t
    · have HE : Hid (rLine s ws = none) := by rw [Hid, HE1.out, if_neg (fun q => by have := HTH.out; omega)]
      clear HE1 g1 g23 g26 h0
      go_upto_region 4 with (fail)
      have tok8 : True := trivial; have tok9 : True := trivial
      go_wp2_with (first | (have _t := tok8; refine wpList_load_row (o := ⟨some 51, _, _, _, _, _⟩) rfl 76 (.tmp 2) rfl a rfl 76 _ _ _ T2 Tryz.underlying76 rfl hi ?_; clear tok8 _t) | (have _t := tok9; refine wpList_store_row (o := ⟨none, .store 76 (.tmp 4) (.tmp 51), _, _, _, _⟩) rfl 76 (.tmp 4) (.tmp 51) rfl (a + 1) _ rfl rfl 76 _ HR2.out hi hold hone ?_; clear tok9 _t))
      have HX : RLineR w B N s us EA ec (rLine s ws) (.returned (.tuple #[.agg cs, .bool false])) (W2.setRow (a + 1) cs) := by
        rw [HE.out]
        exact ⟨Keeps.of_below ((keeps_row _ _ _).below k2 (by have := Blk.lt HR2.out; omega) (fun x e _ => by have e' : x = a + 1 := e; omega)), by rw [HCS.out]⟩
      exact bodyPost_ret (results_line Tryz.results33 rfl rfl (Blk.row HR2.out _) hi) rfl HX
    have t1 : decide (th ≤ t) = false := decide_eq_false h1'
    by_cases h2 : t < la
    · have HE : Hid (rLine s ws = none) := by rw [Hid, HE1.out, if_neg (fun q => by have := HLA.out; omega)]
      clear HE1 g1 g23 g26 h0 h1'
      go_upto_region 4 with (fail)
      have tok8 : True := trivial; have tok9 : True := trivial
      go_wp2_with (first | (have _t := tok8; refine wpList_load_row (o := ⟨some 51, _, _, _, _, _⟩) rfl 76 (.tmp 2) rfl a rfl 76 _ _ _ T2 Tryz.underlying76 rfl hi ?_; clear tok8 _t) | (have _t := tok9; refine wpList_store_row (o := ⟨none, .store 76 (.tmp 4) (.tmp 51), _, _, _, _⟩) rfl 76 (.tmp 4) (.tmp 51) rfl (a + 1) _ rfl rfl 76 _ HR2.out hi hold hone ?_; clear tok9 _t))
      have HX : RLineR w B N s us EA ec (rLine s ws) (.returned (.tuple #[.agg cs, .bool false])) (W2.setRow (a + 1) cs) := by
        rw [HE.out]
        exact ⟨Keeps.of_below ((keeps_row _ _ _).below k2 (by have := Blk.lt HR2.out; omega) (fun x e _ => by have e' : x = a + 1 := e; omega)), by rw [HCS.out]⟩
      exact bodyPost_ret (results_line Tryz.results33 rfl rfl (Blk.row HR2.out _) hi) rfl HX
    have t2 : decide (t < la) = false := decide_eq_false h2
    cases dn with
    | true =>
      have HE : Hid (rLine s ws = none) := by rw [Hid, HE1.out, if_neg (fun q => by have := HDN.out; rw [q.2.2.2] at this; cases this)]
      clear HE1 g1 g23 g26 h0 h1' h2
      go_upto_region 4 with (fail)
      have tok8 : True := trivial; have tok9 : True := trivial
      go_wp2_with (first | (have _t := tok8; refine wpList_load_row (o := ⟨some 51, _, _, _, _, _⟩) rfl 76 (.tmp 2) rfl a rfl 76 _ _ _ T2 Tryz.underlying76 rfl hi ?_; clear tok8 _t) | (have _t := tok9; refine wpList_store_row (o := ⟨none, .store 76 (.tmp 4) (.tmp 51), _, _, _, _⟩) rfl 76 (.tmp 4) (.tmp 51) rfl (a + 1) _ rfl rfl 76 _ HR2.out hi hold hone ?_; clear tok9 _t))
      have HX : RLineR w B N s us EA ec (rLine s ws) (.returned (.tuple #[.agg cs, .bool false])) (W2.setRow (a + 1) cs) := by
        rw [HE.out]
        exact ⟨Keeps.of_below ((keeps_row _ _ _).below k2 (by have := Blk.lt HR2.out; omega) (fun x e _ => by have e' : x = a + 1 := e; omega)), by rw [HCS.out]⟩
      exact bodyPost_ret (results_line Tryz.results33 rfl rfl (Blk.row HR2.out _) hi) rfl HX
    | false =>
      obtain ⟨m, rfl⟩ : ∃ m : Nat, t = (m : Int) := ⟨t.toNat, by omega⟩
      have hm8 : m < 8 := by have := HT.out.th; have := HTH.out; omega
      obtain ⟨s', hs'⟩ : ∃ s', ({ s with last := (m : Int), ps := s.ps.set (m : Int).toNat (s.ps.getD (m : Int).toNat [] ++ [⟨op, lv, key, ca, cb, ch, rg⟩]) } : St) = s' := ⟨_, rfl⟩
      have HE : Hid (rLine s ws = some s') := by rw [Hid, HE1.out, if_pos ⟨by omega, by have := HTH.out; omega, by have := HLA.out; omega, HDN.out⟩, hs']
      have HS' := Lib.hid hs'
      obtain ⟨l, A', c', hlp, hvA⟩ : ∃ l A' c', s.ps[m]? = some l ∧ us[m]? = some (.slice A' l.length c') := by
        have hm : m < s.ps.length := by rw [HT.out.o.p8]; exact hm8
        obtain ⟨A', c', q, _⟩ := HT.out.o.at_ m _ (List.getElem?_eq_getElem hm)
        exact ⟨_, A', c', List.getElem?_eq_getElem hm, q⟩
      clear HE1 h0 h1' h2 hs' g1 g23 g26
      go_upto_region 6 with (fail)
      clear y1 y26
      obtain ⟨cs3, hcs3⟩ : ∃ cs3, (rtc { s with last := (m : Int) } us (.slice EA s.es.length ec)).toArray = cs3 := ⟨_, rfl⟩
      obtain ⟨W, hW, T11, R11, C11, k11, RT11⟩ : ∃ W, W2.setCell ⟨a, 23, none⟩ (.int .i64 (m : Int)) = W ∧ Blk W a 76 cs3 ∧ Blk W (a + 1) 76 #[.int .i64 0, .int .i64 0, .int .i64 0, .int .i64 0, .int .i64 0, .int .i64 0, .int .i64 0, .int .i64 0, .int .i64 0, .int .i64 0, .int .i64 0, .int .i64 0, .int .i64 0, .int .i64 0, .slice none 0 0, .slice none 0 0, .slice none 0 0, .slice none 0 0, .slice none 0 0, .slice none 0 0, .slice none 0 0, .slice none 0 0, .slice none 0 0, .int .i64 0, .int .i64 0, .int .i64 0, .bool false] ∧ Blk W q 51 #[.int .i64 op, .int .i64 lv, .int .i64 key, .int .u64 ca, .int .u64 cb, .int .u64 ch, .int .i64 rg] ∧ Below w.heap.size w W ∧ RT W B s us EA ec N := by
        have kt := (Keeps.refl (fun b => b = a) W2).setCell (p := ⟨a, 23, none⟩) (fun _ => rfl) (.int .i64 (m : Int))
        refine ⟨_, rfl, ?_, kt.blk HR2.out (by omega), kt.blk C2 (by omega), kt.below k2 (by have := k2.size; omega) (fun x e _ => by have e' : x = a := e; omega), RT2.out.keeps kt (fun b e _ => ⟨_, _, e ▸ T2, by decide, by decide⟩)⟩
        have := T2.set_ 23 (.int .i64 (m : Int))
        rw [← HCS.out, List.setIfInBounds_toArray, rtc_last h8, hcs3] at this
        exact this
      rw [hW]
      have own5 : W.ownsRow B 51 7 (.slice A' l.length c') l.length (l.flatMap cvc) := by
        obtain ⟨A2, c2, q, h⟩ := RT11.o.at_ m l hlp
        rw [hvA] at q
        injection q with q
        injection q with q1 q2 q3
        subst q1 q3
        exact h
      have hrd : Rd W A' (l.flatMap cvc) := Rd.of_own own5
      have hck : cs3[14 + m]? = some (.slice A' l.length c') := by rw [← hcs3, List.getElem?_toArray]; exact rtc_row h8 hvA
      have hln : l.length ≤ N := HT.out.ps l (List.mem_of_getElem? hlp)
      have hfl : (l.flatMap cvc).length = l.length * 7 := flat_len cvc_len l
      have hf1 : ∀ u ∈ l.flatMap cvc, u.oneCell' = true := by
        intro u hu
        obtain ⟨y, _, hy⟩ := List.mem_flatMap.1 hu
        simp only [cvc, List.mem_cons, List.not_mem_nil, or_false] at hy
        rcases hy with rfl | rfl | rfl | rfl | rfl | rfl | rfl <;> rfl
      obtain ⟨ln, hln'⟩ : ∃ ln, l.length = ln := ⟨_, rfl⟩
      obtain ⟨fl, hfl'⟩ : ∃ fl, l.flatMap cvc = fl := ⟨_, rfl⟩
      rw [hln', hfl'] at hfl
      rw [hfl'] at hrd hf1
      rw [hln'] at hck hln hvA
      have HLN := Lib.hid hln'
      have HFL := Lib.hid hfl'
      have HVA := Lib.hid hvA
      have HLP := Lib.hid hlp
      have HRT := Lib.hid RT11
      have HR11 := Lib.hid R11
      have HK11 := Lib.hid k11
      have HCS3 := Lib.hid hcs3
      have hi7 : (Tryz.prog.info? 51).map (·.size) = some (#[.int .i64 op, .int .i64 lv, .int .i64 key, .int .u64 ca, .int .u64 cb, .int .u64 ch, .int .i64 rg] : Array Value).size := by kernel_rfl
      have m0 : (0 : Int) ≤ (m : Int) := by omega
      have m1 : (m : Int) < 8 := by omega
      obtain ⟨i0, E2⟩ := elem_cv
      have HFX := Lib.hid hfl
      clear hW T2 C2 own5 RT11 R11 k11 y23 f23 hln' hfl' hvA hlp hcs3 RT2 HR2 hfl
      have nE : Nonempty (ExtB2 a 76 cs3 q 51 #[.int .i64 op, .int .i64 lv, .int .i64 key, .int .u64 ca, .int .u64 cb, .int .u64 ch, .int .i64 rg]) := ⟨⟨W, T11, C11⟩⟩
      have hX : ∀ y : ExtB2 a 76 cs3 q 51 #[.int .i64 op, .int .i64 lv, .int .i64 key, .int .u64 ca, .int .u64 cb, .int .u64 ch, .int .i64 rg], y.w.cell? ⟨a, 14 + m, none⟩ = some (.slice A' ln c') := fun y => (y.k.cell (14 + m)).trans hck
      refine wp_region_noPanic ?_
      refine NC.wp_region_lastU (fun w' => ∃ x : ExtB2 a 76 cs3 q 51 #[.int .i64 op, .int .i64 lv, .int .i64 key, .int .u64 ca, .int .u64 cb, .int .u64 ch, .int .i64 rg], w' = x.w) 14 (NC.PG.two [0, 2, 3, 4, 5, 6, 8, 11, 12] 1 (NC.PG.two [] 7 (NC.PG.one [] 9 (NC.PG.one [] 10 (NC.PG.fin [13]))) 9 (NC.PG.one [] 7 (NC.PG.one [] 10 (NC.PG.fin [13])))) 9 (NC.PG.one [] 1 (NC.PG.one [] 7 (NC.PG.one [] 10 (NC.PG.fin [13]))))) (by kernel_rfl) (by kernel_rfl) (by kernel_rfl) (fun _ _ _ _ _ h => h) (ext2_mem T11.drew C11.drew) ?_
      refine NC.wpG_two ?_
      simp only [NC.pickOps, List.getElem?_cons_succ, List.getElem?_cons_zero, Option.elim_some]
      go_big_quiet_step (fail)
      go_big_quiet_step (fail)
      go_big_quiet_step (fail)
      go_big_quiet_step (fail)
      go_big_quiet_step (fail)
      go_big_quiet_step (fail)
      refine wpQuiet_load_row rfl 51 (.tmp 7) rfl q rfl 51 _ _ (fun w ⟨x, e⟩ => e ▸ x.k') Tryz.underlying51 rfl hi7 ?_; simp only [Act.put, List.setIfInBounds_toArray, List.set_cons_succ, List.set_cons_zero]
      go_big_quiet_step (fail)
      go_big_quiet_step (fail)
      refine wpQuiet_nil ?_
      refine ⟨?_, ?_⟩
      · refine NC.planAct_some (fun K hK => ?_)
        go_simp
        refine hK.out _ _ (ext2_mem (by repeat (first | exact T11 | exact T11.drew | refine Blk.drew ?_ | refine Blk.alloc ?_ _)) (by repeat (first | exact C11 | exact C11.drew | refine Blk.drew ?_ | refine Blk.alloc ?_ _))) ?_
        clear hK K
        try simp only [Act.put]
        refine NC.wpG_two ?_
        simp only [NC.pickOps, List.getElem?_cons_succ, List.getElem?_cons_zero, Option.elim_some]
        repeat (go_big_quiet_step (fail))
        refine wpQuiet_nil ?_
        refine ⟨?_, ?_⟩
        · refine NC.planAct_some (fun K hK => ?_)
          refine step_onto (W0 := W) (ys := fl) (m := ln) E2 rfl (.tmp 55) (.tmp 60) rfl (by repeat (first | exact brefl _ | refine Below.drew ?_ | refine bnew ?_ _)) rfl ((Blk.new W 51 #[]).own (Nat.le_refl _) (Nat.le_refl _) (by decide) rfl rfl : (W.alloc (.cells #[] 51)).ownsRow W.heap.size 51 7 (.slice (some ⟨W.heap.size, 0, none⟩) 0 0) 0 []) rfl HFX.out (hrd.alloc _) hf1 (by unfold maxLen; omega) (by omega) ?_
          intro A8 c8 w8 own8 hb8 hg8
          simp only [Nat.zero_add, List.nil_append] at own8
          have G8 := Blk.below_ T11 hb8
          have D8 := Blk.below_ C11 hb8
          go_simp
          refine hK.out _ _ (ext2_mem G8 D8) ?_
          clear hK K
          try simp only [Act.put]
          refine NC.wpG_one ?_
          simp only [NC.pickOps, List.getElem?_cons_succ, List.getElem?_cons_zero, Option.elim_some]
          repeat (go_big_quiet_step (fail))
          refine wpQuiet_nil ?_
          refine NC.planAct_some (fun K hK => ?_)
          go_simp
          refine hK.out _ _ (ext2_mem (by repeat (first | exact G8 | exact G8.drew | refine Blk.drew ?_ | refine Blk.alloc ?_ _)) (by repeat (first | exact D8 | exact D8.drew | refine Blk.drew ?_ | refine Blk.alloc ?_ _))) ?_
          clear hK K
          try simp only [Act.put]
          refine NC.wpG_one ?_
          simp only [NC.pickOps, List.getElem?_cons_succ, List.getElem?_cons_zero, Option.elim_some]
          repeat (go_big_quiet_step (fail))
          refine wpQuiet_nil ?_
          refine NC.planAct_some (fun K hK => ?_)
          refine step_onto (W0 := W) (ys := [.int .i64 op, .int .i64 lv, .int .i64 key, .int .u64 ca, .int .u64 cb, .int .u64 ch, .int .i64 rg]) (m := 1) E2 rfl (.tmp 61) (.tmp 63) rfl (by repeat (first | exact hb8 | refine Below.drew ?_ | refine bnew ?_ _)) rfl (own8.alloc _ :) rfl rfl (Rd.new w8 _ _ rfl) (by simp [Value.oneCell']) (by unfold maxLen; omega) (by omega) ?_
          intro A9 c9 w9 own9 hb9 hg9
          have G9 := Blk.below_ T11 hb9
          have D9 := Blk.below_ C11 hb9
          go_simp
          refine hK.out _ _ (ext2_mem G9 D9) ?_
          clear hK K
          try simp only [Act.put]
          have f9 := G9.frozen (14 + m)
          have v9 := (G9.cell (14 + m)).trans hck
          have z9 := G9.lt
          refine NC.wpG_fin ?_
          simp only [NC.pickOps, List.getElem?_cons_succ, List.getElem?_cons_zero, Option.elim_some]
          repeat (go_big_quiet_step (fail))
          refine wpQuiet_nil ?_
          refine NC.lastG_some (fun K hK => ?_)
          go_simp
          refine hK.out _ _ ?_
          clear hK K
          refine NoPanic.normal ?_
          clear hX
          have own9' : w9.ownsRow W.heap.size 51 7 (.slice A9 (ln + 1) c9) (ln + 1) (fl ++ cvc ⟨op, lv, key, ca, cb, ch, rg⟩) := own9
          have e := HLN.out
          have e2 := HFL.out
          subst e
          subst e2
          have hW9 := hb9.size
          have hWa : a < W.heap.size := T11.lt
          obtain ⟨g9, hA9, hg9'⟩ : ∃ g9, (Value.slice A9 (l.length + 1) c9).ownBlock = some g9 ∧ W.heap.size ≤ g9 := by
            rcases own9'.2 with ⟨_, q⟩ | ⟨g, cap, cur, hv, hg, _⟩
            · omega
            · exact ⟨g, by rw [hv]; rfl, hg⟩
          have O8 := (HRT.out.o).app (w' := w9) (x := ⟨op, lv, key, ca, cb, ch, rg⟩) HVA.out HLP.out (own_base own9' (by have := HK11.out.size; omega)) ((Keeps.of_below (S := fun _ => False) hb9).mono (fun _ e _ => e.elim)) (.inr ⟨g9, hA9, hg9'⟩)
          have E8 := (Keeps.of_below (S := fun _ => False) hb9).own HRT.out.e (fun _ _ e => e)
          have k4 := (Keeps.refl (fun b => b = a) w9).setCell (p := ⟨a, 14 + m, none⟩) (fun _ => rfl) (.slice A9 (l.length + 1) c9)
          obtain ⟨V, hV, TV, RV, OV, EV, kV⟩ : ∃ V, w9.setCell ⟨a, 14 + m, none⟩ (.slice A9 (l.length + 1) c9) = V ∧ Blk V a 76 (rtc s' (us.set m (.slice A9 (l.length + 1) c9)) (.slice EA s.es.length ec)).toArray ∧ Blk V (a + 1) 76 #[.int .i64 0, .int .i64 0, .int .i64 0, .int .i64 0, .int .i64 0, .int .i64 0, .int .i64 0, .int .i64 0, .int .i64 0, .int .i64 0, .int .i64 0, .int .i64 0, .int .i64 0, .int .i64 0, .slice none 0 0, .slice none 0 0, .slice none 0 0, .slice none 0 0, .slice none 0 0, .slice none 0 0, .slice none 0 0, .slice none 0 0, .slice none 0 0, .int .i64 0, .int .i64 0, .int .i64 0, .bool false] ∧ OW V B (us.set m (.slice A9 (l.length + 1) c9)) (s.ps.set m (l ++ [⟨op, lv, key, ca, cb, ch, rg⟩])) ∧ V.ownsRow B 61 2 (.slice EA s.es.length ec) s.es.length (s.es.flatMap enc_) ∧ Below w.heap.size w V := by
            refine ⟨_, rfl, ?_, k4.blk (HR11.out.below_ hb9) (by omega), O8.keepsT k4 (fun b e _ => ⟨_, _, e ▸ G9, by decide⟩), k4.own E8 (fun q hq e => by have e' : q = a := e; subst e'; exact own_ne_blk E8 G9 (by decide) hq), k4.below (bnext HK11.out hb9) (by omega) (fun x e _ => by have e' : x = a := e; omega)⟩
            have T9 := G9.set_ (14 + m) (.slice A9 (l.length + 1) c9)
            rw [← HCS3.out, List.setIfInBounds_toArray, rtc_setp h8 hm8 _ s'.ps] at T9
            have es' := HS'.out
            have e4 : ({ s with last := (m : Int), ps := s'.ps } : St) = s' := by rw [← es']
            rw [← e4]
            exact T9
          have hps' : s'.ps = s.ps.set m (l ++ [⟨op, lv, key, ca, cb, ch, rg⟩]) := by
            rw [← HS'.out, Int.toNat_natCast, List.getD_eq_getElem?_getD, HLP.out]
            rfl
          have hes' : s'.es = s.es := by rw [← HS'.out]
          have hth' : s'.c = s.c := by rw [← HS'.out]
          have h8' : (us.set m (.slice A9 (l.length + 1) c9)).length = 8 := OV.u8
          have hi' := info_rtc (s := s') (us := us.set m (.slice A9 (l.length + 1) c9)) (ev := .slice EA s.es.length ec) h8'
          have hone' := rtc_one (s := s') OV.pin EA s.es.length ec
          have hold' : (#[.int .i64 0, .int .i64 0, .int .i64 0, .int .i64 0, .int .i64 0, .int .i64 0, .int .i64 0, .int .i64 0, .int .i64 0, .int .i64 0, .int .i64 0, .int .i64 0, .int .i64 0, .int .i64 0, .slice none 0 0, .slice none 0 0, .slice none 0 0, .slice none 0 0, .slice none 0 0, .slice none 0 0, .slice none 0 0, .slice none 0 0, .slice none 0 0, .int .i64 0, .int .i64 0, .int .i64 0, .bool false] : Array Value).size = (rtc s' (us.set m (.slice A9 (l.length + 1) c9)) (.slice EA s.es.length ec)).toArray.size := by rw [List.size_toArray, List.size_toArray, rtc_len h8']; rfl
          have HX : RLineR w B N s us EA ec (rLine s ws) (.returned (.tuple #[.agg (rtc s' (us.set m (.slice A9 (l.length + 1) c9)) (.slice EA s.es.length ec)).toArray, .bool true])) (V.setRow (a + 1) (rtc s' (us.set m (.slice A9 (l.length + 1) c9)) (.slice EA s.es.length ec)).toArray) := by
            have kr := keeps_row V (a + 1) (rtc s' (us.set m (.slice A9 (l.length + 1) c9)) (.slice EA s.es.length ec)).toArray
            rw [HE.out]
            refine ⟨Keeps.of_below ((kr.below kV (by have := RV.lt; omega) (fun x e _ => by have e' : x = a + 1 := e; omega))), us.set m (.slice A9 (l.length + 1) c9), EA, ec, by rw [hes'], ?_⟩
            have hRT : RT V B s' (us.set m (.slice A9 (l.length + 1) c9)) EA ec (N + 1) := ⟨by rw [hps']; exact OV, by rw [hes']; exact EV, fun l' hl' => by
              rw [hps'] at hl'
              rcases List.mem_or_eq_of_mem_set hl' with q | q
              · exact Nat.le_succ_of_le (HT.out.ps l' q)
              · rw [q, List.length_append]; simp; exact hln, by rw [hes']; exact HT.out.es, by rw [hth']; exact HT.out.th⟩
            exact hRT.keeps kr (fun b e _ => ⟨_, _, e ▸ RV, by decide, by decide⟩)
          obtain ⟨cs9, hcs9⟩ : ∃ cs9, (rtc s' (us.set m (.slice A9 (l.length + 1) c9)) (.slice EA s.es.length ec)).toArray = cs9 := ⟨_, rfl⟩
          rw [hcs9] at TV hi' hone' hold' HX
          rw [hV]
          clear hV
          go_upto_region 7 with (fail)
          have tok8 : True := trivial; have tok9 : True := trivial
          go_wp2_with (first | (have _t := tok8; refine wpList_load_row (o := ⟨some 68, _, _, _, _, _⟩) rfl 76 (.tmp 2) rfl a rfl 76 _ _ _ TV Tryz.underlying76 rfl hi' ?_; clear tok8 _t) | (have _t := tok9; refine wpList_store_row (o := ⟨none, .store 76 (.tmp 4) (.tmp 68), _, _, _, _⟩) rfl 76 (.tmp 4) (.tmp 68) rfl (a + 1) _ rfl rfl 76 _ RV hi' hold' hone' ?_; clear tok9 _t))
          exact bodyPost_ret (results_line Tryz.results33 rfl rfl (RV.row _) hi') rfl HX
        · refine NC.planAct_some (fun K hK => ?_)
          go_simp
          refine hK.out _ _ (ext2_mem (by repeat (first | exact T11 | exact T11.drew | refine Blk.drew ?_ | refine Blk.alloc ?_ _)) (by repeat (first | exact C11 | exact C11.drew | refine Blk.drew ?_ | refine Blk.alloc ?_ _))) ?_
          clear hK K
          try simp only [Act.put]
          refine NC.wpG_one ?_
          simp only [NC.pickOps, List.getElem?_cons_succ, List.getElem?_cons_zero, Option.elim_some]
          repeat (go_big_quiet_step (fail))
          refine wpQuiet_nil ?_
          refine NC.planAct_some (fun K hK => ?_)
          refine step_onto (W0 := W) (ys := fl) (m := ln) E2 rfl (.tmp 55) (.tmp 60) rfl (by repeat (first | exact brefl _ | refine Below.drew ?_ | refine bnew ?_ _)) rfl ((((Blk.new W 51 #[]).own (Nat.le_refl _) (Nat.le_refl _) (by decide) rfl rfl : (W.alloc (.cells #[] 51)).ownsRow W.heap.size 51 7 (.slice (some ⟨W.heap.size, 0, none⟩) 0 0) 0 [])).alloc _ :) rfl HFX.out ((hrd.alloc _).alloc _) hf1 (by unfold maxLen; omega) (by omega) ?_
          intro A8 c8 w8 own8 hb8 hg8
          simp only [Nat.zero_add, List.nil_append] at own8
          have G8 := Blk.below_ T11 hb8
          have D8 := Blk.below_ C11 hb8
          have X8 : Rd w8 (some ⟨W.heap.size + 1, 0, none⟩) [.int .i64 op, .int .i64 lv, .int .i64 key, .int .u64 ca, .int .u64 cb, .int .u64 ch, .int .i64 rg] := (by have h := Blk.new (W.alloc (.cells #[] 51)) 51 #[.int .i64 op, .int .i64 lv, .int .i64 key, .int .u64 ca, .int .u64 cb, .int .u64 ch, .int .i64 rg]; rw [World.size_alloc] at h; exact (Blk.grown (row := some W.heap.size) h.drew hg8 (by simp)).rd)
          go_simp
          refine hK.out _ _ (ext2_mem G8 D8) ?_
          clear hK K
          try simp only [Act.put]
          refine NC.wpG_one ?_
          simp only [NC.pickOps, List.getElem?_cons_succ, List.getElem?_cons_zero, Option.elim_some]
          repeat (go_big_quiet_step (fail))
          refine wpQuiet_nil ?_
          refine NC.planAct_some (fun K hK => ?_)
          refine step_onto (W0 := W) (ys := [.int .i64 op, .int .i64 lv, .int .i64 key, .int .u64 ca, .int .u64 cb, .int .u64 ch, .int .i64 rg]) (m := 1) E2 rfl (.tmp 61) (.tmp 63) rfl hb8 rfl own8 rfl rfl X8 (by simp [Value.oneCell']) (by unfold maxLen; omega) (by omega) ?_
          intro A9 c9 w9 own9 hb9 hg9
          have G9 := Blk.below_ T11 hb9
          have D9 := Blk.below_ C11 hb9
          go_simp
          refine hK.out _ _ (ext2_mem G9 D9) ?_
          clear hK K
          try simp only [Act.put]
          have f9 := G9.frozen (14 + m)
          have v9 := (G9.cell (14 + m)).trans hck
          have z9 := G9.lt
          refine NC.wpG_fin ?_
          simp only [NC.pickOps, List.getElem?_cons_succ, List.getElem?_cons_zero, Option.elim_some]
          repeat (go_big_quiet_step (fail))
          refine wpQuiet_nil ?_
          refine NC.lastG_some (fun K hK => ?_)
          go_simp
          refine hK.out _ _ ?_
          clear hK K
          refine NoPanic.normal ?_
          clear hX
          have own9' : w9.ownsRow W.heap.size 51 7 (.slice A9 (ln + 1) c9) (ln + 1) (fl ++ cvc ⟨op, lv, key, ca, cb, ch, rg⟩) := own9
          have e := HLN.out
          have e2 := HFL.out
          subst e
          subst e2
          have hW9 := hb9.size
          have hWa : a < W.heap.size := T11.lt
          obtain ⟨g9, hA9, hg9'⟩ : ∃ g9, (Value.slice A9 (l.length + 1) c9).ownBlock = some g9 ∧ W.heap.size ≤ g9 := by
            rcases own9'.2 with ⟨_, q⟩ | ⟨g, cap, cur, hv, hg, _⟩
            · omega
            · exact ⟨g, by rw [hv]; rfl, hg⟩
          have O8 := (HRT.out.o).app (w' := w9) (x := ⟨op, lv, key, ca, cb, ch, rg⟩) HVA.out HLP.out (own_base own9' (by have := HK11.out.size; omega)) ((Keeps.of_below (S := fun _ => False) hb9).mono (fun _ e _ => e.elim)) (.inr ⟨g9, hA9, hg9'⟩)
          have E8 := (Keeps.of_below (S := fun _ => False) hb9).own HRT.out.e (fun _ _ e => e)
          have k4 := (Keeps.refl (fun b => b = a) w9).setCell (p := ⟨a, 14 + m, none⟩) (fun _ => rfl) (.slice A9 (l.length + 1) c9)
          obtain ⟨V, hV, TV, RV, OV, EV, kV⟩ : ∃ V, w9.setCell ⟨a, 14 + m, none⟩ (.slice A9 (l.length + 1) c9) = V ∧ Blk V a 76 (rtc s' (us.set m (.slice A9 (l.length + 1) c9)) (.slice EA s.es.length ec)).toArray ∧ Blk V (a + 1) 76 #[.int .i64 0, .int .i64 0, .int .i64 0, .int .i64 0, .int .i64 0, .int .i64 0, .int .i64 0, .int .i64 0, .int .i64 0, .int .i64 0, .int .i64 0, .int .i64 0, .int .i64 0, .int .i64 0, .slice none 0 0, .slice none 0 0, .slice none 0 0, .slice none 0 0, .slice none 0 0, .slice none 0 0, .slice none 0 0, .slice none 0 0, .slice none 0 0, .int .i64 0, .int .i64 0, .int .i64 0, .bool false] ∧ OW V B (us.set m (.slice A9 (l.length + 1) c9)) (s.ps.set m (l ++ [⟨op, lv, key, ca, cb, ch, rg⟩])) ∧ V.ownsRow B 61 2 (.slice EA s.es.length ec) s.es.length (s.es.flatMap enc_) ∧ Below w.heap.size w V := by
            refine ⟨_, rfl, ?_, k4.blk (HR11.out.below_ hb9) (by omega), O8.keepsT k4 (fun b e _ => ⟨_, _, e ▸ G9, by decide⟩), k4.own E8 (fun q hq e => by have e' : q = a := e; subst e'; exact own_ne_blk E8 G9 (by decide) hq), k4.below (bnext HK11.out hb9) (by omega) (fun x e _ => by have e' : x = a := e; omega)⟩
            have T9 := G9.set_ (14 + m) (.slice A9 (l.length + 1) c9)
            rw [← HCS3.out, List.setIfInBounds_toArray, rtc_setp h8 hm8 _ s'.ps] at T9
            have es' := HS'.out
            have e4 : ({ s with last := (m : Int), ps := s'.ps } : St) = s' := by rw [← es']
            rw [← e4]
            exact T9
          have hps' : s'.ps = s.ps.set m (l ++ [⟨op, lv, key, ca, cb, ch, rg⟩]) := by
            rw [← HS'.out, Int.toNat_natCast, List.getD_eq_getElem?_getD, HLP.out]
            rfl
          have hes' : s'.es = s.es := by rw [← HS'.out]
          have hth' : s'.c = s.c := by rw [← HS'.out]
          have h8' : (us.set m (.slice A9 (l.length + 1) c9)).length = 8 := OV.u8
          have hi' := info_rtc (s := s') (us := us.set m (.slice A9 (l.length + 1) c9)) (ev := .slice EA s.es.length ec) h8'
          have hone' := rtc_one (s := s') OV.pin EA s.es.length ec
          have hold' : (#[.int .i64 0, .int .i64 0, .int .i64 0, .int .i64 0, .int .i64 0, .int .i64 0, .int .i64 0, .int .i64 0, .int .i64 0, .int .i64 0, .int .i64 0, .int .i64 0, .int .i64 0, .int .i64 0, .slice none 0 0, .slice none 0 0, .slice none 0 0, .slice none 0 0, .slice none 0 0, .slice none 0 0, .slice none 0 0, .slice none 0 0, .slice none 0 0, .int .i64 0, .int .i64 0, .int .i64 0, .bool false] : Array Value).size = (rtc s' (us.set m (.slice A9 (l.length + 1) c9)) (.slice EA s.es.length ec)).toArray.size := by rw [List.size_toArray, List.size_toArray, rtc_len h8']; rfl
          have HX : RLineR w B N s us EA ec (rLine s ws) (.returned (.tuple #[.agg (rtc s' (us.set m (.slice A9 (l.length + 1) c9)) (.slice EA s.es.length ec)).toArray, .bool true])) (V.setRow (a + 1) (rtc s' (us.set m (.slice A9 (l.length + 1) c9)) (.slice EA s.es.length ec)).toArray) := by
            have kr := keeps_row V (a + 1) (rtc s' (us.set m (.slice A9 (l.length + 1) c9)) (.slice EA s.es.length ec)).toArray
            rw [HE.out]
            refine ⟨Keeps.of_below ((kr.below kV (by have := RV.lt; omega) (fun x e _ => by have e' : x = a + 1 := e; omega))), us.set m (.slice A9 (l.length + 1) c9), EA, ec, by rw [hes'], ?_⟩
            have hRT : RT V B s' (us.set m (.slice A9 (l.length + 1) c9)) EA ec (N + 1) := ⟨by rw [hps']; exact OV, by rw [hes']; exact EV, fun l' hl' => by
              rw [hps'] at hl'
              rcases List.mem_or_eq_of_mem_set hl' with q | q
              · exact Nat.le_succ_of_le (HT.out.ps l' q)
              · rw [q, List.length_append]; simp; exact hln, by rw [hes']; exact HT.out.es, by rw [hth']; exact HT.out.th⟩
            exact hRT.keeps kr (fun b e _ => ⟨_, _, e ▸ RV, by decide, by decide⟩)
          obtain ⟨cs9, hcs9⟩ : ∃ cs9, (rtc s' (us.set m (.slice A9 (l.length + 1) c9)) (.slice EA s.es.length ec)).toArray = cs9 := ⟨_, rfl⟩
          rw [hcs9] at TV hi' hone' hold' HX
          rw [hV]
          clear hV
          go_upto_region 7 with (fail)
          have tok8 : True := trivial; have tok9 : True := trivial
          go_wp2_with (first | (have _t := tok8; refine wpList_load_row (o := ⟨some 68, _, _, _, _, _⟩) rfl 76 (.tmp 2) rfl a rfl 76 _ _ _ TV Tryz.underlying76 rfl hi' ?_; clear tok8 _t) | (have _t := tok9; refine wpList_store_row (o := ⟨none, .store 76 (.tmp 4) (.tmp 68), _, _, _, _⟩) rfl 76 (.tmp 4) (.tmp 68) rfl (a + 1) _ rfl rfl 76 _ RV hi' hold' hone' ?_; clear tok9 _t))
          exact bodyPost_ret (results_line Tryz.results33 rfl rfl (RV.row _) hi') rfl HX
      · refine NC.planAct_some (fun K hK => ?_)
        go_simp
        refine hK.out _ _ (ext2_mem (by repeat (first | exact T11 | exact T11.drew | refine Blk.drew ?_ | refine Blk.alloc ?_ _)) (by repeat (first | exact C11 | exact C11.drew | refine Blk.drew ?_ | refine Blk.alloc ?_ _))) ?_
        clear hK K
        try simp only [Act.put]
        refine NC.wpG_one ?_
        simp only [NC.pickOps, List.getElem?_cons_succ, List.getElem?_cons_zero, Option.elim_some]
        repeat (go_big_quiet_step (fail))
        refine wpQuiet_nil ?_
        refine NC.planAct_some (fun K hK => ?_)
        go_simp
        refine hK.out _ _ (ext2_mem (by repeat (first | exact T11 | exact T11.drew | refine Blk.drew ?_ | refine Blk.alloc ?_ _)) (by repeat (first | exact C11 | exact C11.drew | refine Blk.drew ?_ | refine Blk.alloc ?_ _))) ?_
        clear hK K
        try simp only [Act.put]
        refine NC.wpG_one ?_
        simp only [NC.pickOps, List.getElem?_cons_succ, List.getElem?_cons_zero, Option.elim_some]
        repeat (go_big_quiet_step (fail))
        refine wpQuiet_nil ?_
        refine NC.planAct_some (fun K hK => ?_)
        refine step_onto (W0 := W) (ys := fl) (m := ln) E2 rfl (.tmp 55) (.tmp 60) rfl (by repeat (first | exact brefl _ | refine Below.drew ?_ | refine bnew ?_ _)) rfl ((by have h := Blk.new (W.alloc (.cells #[.int .i64 op, .int .i64 lv, .int .i64 key, .int .u64 ca, .int .u64 cb, .int .u64 ch, .int .i64 rg] 51)) 51 #[]; rw [World.size_alloc] at h; exact h.own (Nat.le_succ _) (Nat.le_refl _) (by decide) rfl rfl : (( W.alloc (.cells #[.int .i64 op, .int .i64 lv, .int .i64 key, .int .u64 ca, .int .u64 cb, .int .u64 ch, .int .i64 rg] 51)).alloc (.cells #[] 51)).ownsRow W.heap.size 51 7 (.slice (some ⟨W.heap.size + 1, 0, none⟩) 0 0) 0 [])) rfl HFX.out ((hrd.alloc _).alloc _) hf1 (by unfold maxLen; omega) (by omega) ?_
        intro A8 c8 w8 own8 hb8 hg8
        simp only [Nat.zero_add, List.nil_append] at own8
        have G8 := Blk.below_ T11 hb8
        have D8 := Blk.below_ C11 hb8
        have X8 : Rd w8 (some ⟨W.heap.size, 0, none⟩) [.int .i64 op, .int .i64 lv, .int .i64 key, .int .u64 ca, .int .u64 cb, .int .u64 ch, .int .i64 rg] := (by have h := (Blk.new W 51 #[.int .i64 op, .int .i64 lv, .int .i64 key, .int .u64 ca, .int .u64 cb, .int .u64 ch, .int .i64 rg]).alloc (.cells #[] 51); exact (Blk.grown (row := some (W.heap.size + 1)) h.drew hg8 (by simp)).rd)
        go_simp
        refine hK.out _ _ (ext2_mem G8 D8) ?_
        clear hK K
        try simp only [Act.put]
        refine NC.wpG_one ?_
        simp only [NC.pickOps, List.getElem?_cons_succ, List.getElem?_cons_zero, Option.elim_some]
        repeat (go_big_quiet_step (fail))
        refine wpQuiet_nil ?_
        refine NC.planAct_some (fun K hK => ?_)
        refine step_onto (W0 := W) (ys := [.int .i64 op, .int .i64 lv, .int .i64 key, .int .u64 ca, .int .u64 cb, .int .u64 ch, .int .i64 rg]) (m := 1) E2 rfl (.tmp 61) (.tmp 63) rfl hb8 rfl own8 rfl rfl X8 (by simp [Value.oneCell']) (by unfold maxLen; omega) (by omega) ?_
        intro A9 c9 w9 own9 hb9 hg9
        have G9 := Blk.below_ T11 hb9
        have D9 := Blk.below_ C11 hb9
        go_simp
        refine hK.out _ _ (ext2_mem G9 D9) ?_
        clear hK K
        try simp only [Act.put]
        have f9 := G9.frozen (14 + m)
        have v9 := (G9.cell (14 + m)).trans hck
        have z9 := G9.lt
        refine NC.wpG_fin ?_
        simp only [NC.pickOps, List.getElem?_cons_succ, List.getElem?_cons_zero, Option.elim_some]
        repeat (go_big_quiet_step (fail))
        refine wpQuiet_nil ?_
        refine NC.lastG_some (fun K hK => ?_)
        go_simp
        refine hK.out _ _ ?_
        clear hK K
        refine NoPanic.normal ?_
        clear hX
        have own9' : w9.ownsRow W.heap.size 51 7 (.slice A9 (ln + 1) c9) (ln + 1) (fl ++ cvc ⟨op, lv, key, ca, cb, ch, rg⟩) := own9
        have e := HLN.out
        have e2 := HFL.out
        subst e
        subst e2
        have hW9 := hb9.size
        have hWa : a < W.heap.size := T11.lt
        obtain ⟨g9, hA9, hg9'⟩ : ∃ g9, (Value.slice A9 (l.length + 1) c9).ownBlock = some g9 ∧ W.heap.size ≤ g9 := by
          rcases own9'.2 with ⟨_, q⟩ | ⟨g, cap, cur, hv, hg, _⟩
          · omega
          · exact ⟨g, by rw [hv]; rfl, hg⟩
        have O8 := (HRT.out.o).app (w' := w9) (x := ⟨op, lv, key, ca, cb, ch, rg⟩) HVA.out HLP.out (own_base own9' (by have := HK11.out.size; omega)) ((Keeps.of_below (S := fun _ => False) hb9).mono (fun _ e _ => e.elim)) (.inr ⟨g9, hA9, hg9'⟩)
        have E8 := (Keeps.of_below (S := fun _ => False) hb9).own HRT.out.e (fun _ _ e => e)
        have k4 := (Keeps.refl (fun b => b = a) w9).setCell (p := ⟨a, 14 + m, none⟩) (fun _ => rfl) (.slice A9 (l.length + 1) c9)
        obtain ⟨V, hV, TV, RV, OV, EV, kV⟩ : ∃ V, w9.setCell ⟨a, 14 + m, none⟩ (.slice A9 (l.length + 1) c9) = V ∧ Blk V a 76 (rtc s' (us.set m (.slice A9 (l.length + 1) c9)) (.slice EA s.es.length ec)).toArray ∧ Blk V (a + 1) 76 #[.int .i64 0, .int .i64 0, .int .i64 0, .int .i64 0, .int .i64 0, .int .i64 0, .int .i64 0, .int .i64 0, .int .i64 0, .int .i64 0, .int .i64 0, .int .i64 0, .int .i64 0, .int .i64 0, .slice none 0 0, .slice none 0 0, .slice none 0 0, .slice none 0 0, .slice none 0 0, .slice none 0 0, .slice none 0 0, .slice none 0 0, .slice none 0 0, .int .i64 0, .int .i64 0, .int .i64 0, .bool false] ∧ OW V B (us.set m (.slice A9 (l.length + 1) c9)) (s.ps.set m (l ++ [⟨op, lv, key, ca, cb, ch, rg⟩])) ∧ V.ownsRow B 61 2 (.slice EA s.es.length ec) s.es.length (s.es.flatMap enc_) ∧ Below w.heap.size w V := by
          refine ⟨_, rfl, ?_, k4.blk (HR11.out.below_ hb9) (by omega), O8.keepsT k4 (fun b e _ => ⟨_, _, e ▸ G9, by decide⟩), k4.own E8 (fun q hq e => by have e' : q = a := e; subst e'; exact own_ne_blk E8 G9 (by decide) hq), k4.below (bnext HK11.out hb9) (by omega) (fun x e _ => by have e' : x = a := e; omega)⟩
          have T9 := G9.set_ (14 + m) (.slice A9 (l.length + 1) c9)
          rw [← HCS3.out, List.setIfInBounds_toArray, rtc_setp h8 hm8 _ s'.ps] at T9
          have es' := HS'.out
          have e4 : ({ s with last := (m : Int), ps := s'.ps } : St) = s' := by rw [← es']
          rw [← e4]
          exact T9
        have hps' : s'.ps = s.ps.set m (l ++ [⟨op, lv, key, ca, cb, ch, rg⟩]) := by
          rw [← HS'.out, Int.toNat_natCast, List.getD_eq_getElem?_getD, HLP.out]
          rfl
        have hes' : s'.es = s.es := by rw [← HS'.out]
        have hth' : s'.c = s.c := by rw [← HS'.out]
        have h8' : (us.set m (.slice A9 (l.length + 1) c9)).length = 8 := OV.u8
        have hi' := info_rtc (s := s') (us := us.set m (.slice A9 (l.length + 1) c9)) (ev := .slice EA s.es.length ec) h8'
        have hone' := rtc_one (s := s') OV.pin EA s.es.length ec
        have hold' : (#[.int .i64 0, .int .i64 0, .int .i64 0, .int .i64 0, .int .i64 0, .int .i64 0, .int .i64 0, .int .i64 0, .int .i64 0, .int .i64 0, .int .i64 0, .int .i64 0, .int .i64 0, .int .i64 0, .slice none 0 0, .slice none 0 0, .slice none 0 0, .slice none 0 0, .slice none 0 0, .slice none 0 0, .slice none 0 0, .slice none 0 0, .slice none 0 0, .int .i64 0, .int .i64 0, .int .i64 0, .bool false] : Array Value).size = (rtc s' (us.set m (.slice A9 (l.length + 1) c9)) (.slice EA s.es.length ec)).toArray.size := by rw [List.size_toArray, List.size_toArray, rtc_len h8']; rfl
        have HX : RLineR w B N s us EA ec (rLine s ws) (.returned (.tuple #[.agg (rtc s' (us.set m (.slice A9 (l.length + 1) c9)) (.slice EA s.es.length ec)).toArray, .bool true])) (V.setRow (a + 1) (rtc s' (us.set m (.slice A9 (l.length + 1) c9)) (.slice EA s.es.length ec)).toArray) := by
          have kr := keeps_row V (a + 1) (rtc s' (us.set m (.slice A9 (l.length + 1) c9)) (.slice EA s.es.length ec)).toArray
          rw [HE.out]
          refine ⟨Keeps.of_below ((kr.below kV (by have := RV.lt; omega) (fun x e _ => by have e' : x = a + 1 := e; omega))), us.set m (.slice A9 (l.length + 1) c9), EA, ec, by rw [hes'], ?_⟩
          have hRT : RT V B s' (us.set m (.slice A9 (l.length + 1) c9)) EA ec (N + 1) := ⟨by rw [hps']; exact OV, by rw [hes']; exact EV, fun l' hl' => by
            rw [hps'] at hl'
            rcases List.mem_or_eq_of_mem_set hl' with q | q
            · exact Nat.le_succ_of_le (HT.out.ps l' q)
            · rw [q, List.length_append]; simp; exact hln, by rw [hes']; exact HT.out.es, by rw [hth']; exact HT.out.th⟩
          exact hRT.keeps kr (fun b e _ => ⟨_, _, e ▸ RV, by decide, by decide⟩)
        obtain ⟨cs9, hcs9⟩ : ∃ cs9, (rtc s' (us.set m (.slice A9 (l.length + 1) c9)) (.slice EA s.es.length ec)).toArray = cs9 := ⟨_, rfl⟩
        rw [hcs9] at TV hi' hone' hold' HX
        rw [hV]
        clear hV
        go_upto_region 7 with (fail)
        have tok8 : True := trivial; have tok9 : True := trivial
        go_wp2_with (first | (have _t := tok8; refine wpList_load_row (o := ⟨some 68, _, _, _, _, _⟩) rfl 76 (.tmp 2) rfl a rfl 76 _ _ _ TV Tryz.underlying76 rfl hi' ?_; clear tok8 _t) | (have _t := tok9; refine wpList_store_row (o := ⟨none, .store 76 (.tmp 4) (.tmp 68), _, _, _, _⟩) rfl 76 (.tmp 4) (.tmp 68) rfl (a + 1) _ rfl rfl 76 _ RV hi' hold' hone' ?_; clear tok9 _t))
        exact bodyPost_ret (results_line Tryz.results33 rfl rfl (RV.row _) hi') rfl HX
end Go.Proofs.YtjjgngccgjpnaaaGreatDoor
namespace Go.Proofs.YtjjgngccgjpnaaaGreatDoor
set_option linter.unusedVariables false
set_option linter.unusedSimpArgs false
open Go.RowKit

/-- What the numbers of a line are, as they lie in memory. -/
def NumP (w : World) (nv : Value) (bn : Bool) (l : Wd) : Prop := match numsI l with
  | none => bn = false
  | some ns => bn = true ∧ ∃ A d, nv = .slice A ns.length d ∧ ∀ (k : Nat) (v : Int), ns[k]? = some v → ∃ g, A = some ⟨g, 0, none⟩ ∧ w.cell? ⟨g, k, none⟩ = some (.int .i64 v)
theorem nump_of {w w' : World} {ws : Wd} {e : Ending} (h : RNumsR w ws e w') : ∃ nv bn, e = .returned (.tuple #[nv, .bool bn]) ∧ NumP w' nv bn ws ∧ Below w.heap.size w w' := by
  have h1 := h.1
  have h2 := h.2
  unfold NumP
  cases hn : numsI ws with
  | none =>
    rw [hn] at h2
    exact ⟨_, _, h2, rfl, h1⟩
  | some ns =>
    rw [hn] at h2
    obtain ⟨A, d, he, own⟩ := h2
    refine ⟨_, _, he, ⟨rfl, A, d, rfl, fun k v hk => ?_⟩, h1⟩
    have hlt := (List.getElem?_eq_some_iff.1 hk).1
    obtain ⟨g, hA, _, _, _, hc⟩ := own_form1 own (by omega)
    refine ⟨g, hA, hc k _ ?_⟩
    have := flat_get ic_len ns k 0 v (.int .i64 v) hk rfl
    rwa [Nat.mul_one, Nat.add_zero] at this
theorem wd4_inj : ∀ i : Fin 4, ∀ j : Fin 4, wd4 i.val = wd4 j.val → i = j := by decide
set_option maxHeartbeats 4000000 in
set_option maxRecDepth 100000 in
theorem eqE (x y : En) (w : World) : (binOp .eql 61 (.agg (enc_ x).toArray) (.agg (enc_ y).toArray)).run Tryz.prog w = .ok (.bool (decide (x = y))) w := by
  obtain ⟨a0, a1⟩ := x
  obtain ⟨b0, b1⟩ := y
  by_cases h0 : a0 = b0
  · subst h0
    by_cases h1 : a1 = b1
    · subst h1
      rw [show decide (_ = _) = true from decide_eq_true rfl]
      simp [go_sem, enc_]
    · rw [decide_eq_false (by intro e; injection e; exact h1 (by assumption))]
      simp [go_sem, enc_, h1]
  · rw [decide_eq_false (by intro e; injection e; exact h0 (by assumption))]
    simp [go_sem, enc_, h0]
theorem whatG_none (f : List UInt8) : ∀ g k, (∀ j, k ≤ j → j < k + g → wd4 j ≠ f) → whatG g k f = none
  | 0, _, _ => rfl
  | g + 1, k, h => by
    rw [whatG, if_neg (h k (Nat.le_refl _) (by omega))]
    exact whatG_none f g (k + 1) fun j h1 h2 => h j (by omega) (by omega)
theorem whatG_some (f : List UInt8) (j : Nat) (hs : wd4 j = f) (hj : j < 4) : ∀ g k, k ≤ j → j < k + g → k + g ≤ 4 → whatG g k f = some j
  | 0, k, h1, h2, _ => by omega
  | g + 1, k, h1, h2, h3 => by
    rw [whatG]
    by_cases hq : wd4 k = f
    · rw [if_pos hq]
      have := wd4_inj ⟨k, by omega⟩ ⟨j, hj⟩ (hq.trans hs.symm)
      have : k = j := congrArg Fin.val this
      rw [this]
    · rw [if_neg hq]
      exact whatG_some f j hs hj g (k + 1) (by
        rcases Nat.lt_or_ge k j with q | q
        · exact q
        · obtain rfl : k = j := by omega
          exact absurd hs hq) (by omega) (by omega)
def whInv (k : Nat) (o : Int) (f : List UInt8) : Prop := (o = -1 ∧ ∀ j, j < k → wd4 j ≠ f) ∨ ∃ j : Nat, j < k ∧ o = (j : Int) ∧ wd4 j = f
theorem whInv_end {o : Int} {f : List UInt8} (h : whInv 4 o f) : (o = -1 ∧ whatOf f = none) ∨ ∃ j : Nat, j < 4 ∧ o = (j : Int) ∧ whatOf f = some j := by
  rcases h with ⟨h1, h2⟩ | ⟨j, h1, h2, h3⟩
  · exact .inl ⟨h1, whatG_none f 4 0 fun j _ h => h2 j (by omega)⟩
  · exact .inr ⟨j, h1, h2, whatG_some f j h3 h1 4 0 (by omega) (by omega) (by omega)⟩
set_option maxHeartbeats 40000000 in
set_option maxRecDepth 100000 in
theorem rline_other {w : World} {B N n c : Nat} {A EA : Option Addr} {ec : Nat} {ws : Wd} {s : St} {us : List Value} (hT : RT w B s us EA ec N) (hB : B ≤ w.heap.size) (hN : N ≤ 1000000) (h : Sl strc w A n c ws) (h1 : 1 ≤ n) (hn : n ≤ 1000001) (hl : ∀ x, x ∈ ws → x.length ≤ 1000000) (hcall : ws.getD 0 [] ≠ callB) : Calls Tryz.prog 33 #[.agg (rtc s us (.slice EA s.es.length ec)).toArray, .slice A n c] w (RLineR w B N s us EA ec (rLine s ws)) := by
  obtain ⟨a, ha⟩ : ∃ a, w.heap.size = a := ⟨_, rfl⟩
  have hlen := Lib.hid h.len
  have HS := Lib.hid h
  have HLW := Lib.hid hl
  have HT := Lib.hid hT
  have h8 := hT.o.u8
  have hi := info_rtc (s := s) (us := us) (ev := .slice EA s.es.length ec) h8
  have hone := rtc_one (s := s) hT.o.pin EA s.es.length ec
  have hold : (#[.int .i64 0, .int .i64 0, .int .i64 0, .int .i64 0, .int .i64 0, .int .i64 0, .int .i64 0, .int .i64 0, .int .i64 0, .int .i64 0, .int .i64 0, .int .i64 0, .int .i64 0, .int .i64 0, .slice none 0 0, .slice none 0 0, .slice none 0 0, .slice none 0 0, .slice none 0 0, .slice none 0 0, .slice none 0 0, .slice none 0 0, .slice none 0 0, .int .i64 0, .int .i64 0, .int .i64 0, .bool false] : Array Value).size = (rtc s us (.slice EA s.es.length ec)).toArray.size := by rw [List.size_toArray, List.size_toArray, rtc_len h8]; rfl
  have g1 : (rtc s us (.slice EA s.es.length ec)).toArray[1]? = some (.int .i64 s.c.th) := rfl
  have g23 : (rtc s us (.slice EA s.es.length ec)).toArray[23]? = some (.int .i64 s.last) := by rw [List.getElem?_toArray]; exact rtc_get h8 0
  have g24 : (rtc s us (.slice EA s.es.length ec)).toArray[24]? = some (.int .i64 s.was.th) := by rw [List.getElem?_toArray]; exact rtc_get h8 1
  have g25 : (rtc s us (.slice EA s.es.length ec)).toArray[25]? = some (.int .i64 s.was.wh) := by rw [List.getElem?_toArray]; exact rtc_get h8 2
  have g26 : (rtc s us (.slice EA s.es.length ec)).toArray[26]? = some (.bool s.done) := by rw [List.getElem?_toArray]; exact rtc_get h8 3
  obtain ⟨cs, hcs⟩ : ∃ cs, (rtc s us (.slice EA s.es.length ec)).toArray = cs := ⟨_, rfl⟩
  rw [hcs] at hi hone hold g1 g23 g24 g25 g26 ⊢
  have HCS := Lib.hid hcs
  clear h hl hT hcs
  go_enter Tryz.func33, Tryz.ntmps33
  go_upto_region 1 with (fail)
  obtain ⟨W0, hW0, T0, R0, k0, z0⟩ : ∃ W0, (w.alloc (.cells cs 76)).alloc (.cells #[.int .i64 0, .int .i64 0, .int .i64 0, .int .i64 0, .int .i64 0, .int .i64 0, .int .i64 0, .int .i64 0, .int .i64 0, .int .i64 0, .int .i64 0, .int .i64 0, .int .i64 0, .int .i64 0, .slice none 0 0, .slice none 0 0, .slice none 0 0, .slice none 0 0, .slice none 0 0, .slice none 0 0, .slice none 0 0, .slice none 0 0, .slice none 0 0, .int .i64 0, .int .i64 0, .int .i64 0, .bool false] 76) = W0 ∧ Blk W0 a 76 cs ∧ Blk W0 (a + 1) 76 #[.int .i64 0, .int .i64 0, .int .i64 0, .int .i64 0, .int .i64 0, .int .i64 0, .int .i64 0, .int .i64 0, .int .i64 0, .int .i64 0, .int .i64 0, .int .i64 0, .int .i64 0, .int .i64 0, .slice none 0 0, .slice none 0 0, .slice none 0 0, .slice none 0 0, .slice none 0 0, .slice none 0 0, .slice none 0 0, .slice none 0 0, .slice none 0 0, .int .i64 0, .int .i64 0, .int .i64 0, .bool false] ∧ Below w.heap.size w W0 ∧ W0.heap.size = a + 2 := by
    have h1 := Blk.new w 76 cs
    have h2 := Blk.new (w.alloc (.cells cs 76)) 76 #[.int .i64 0, .int .i64 0, .int .i64 0, .int .i64 0, .int .i64 0, .int .i64 0, .int .i64 0, .int .i64 0, .int .i64 0, .int .i64 0, .int .i64 0, .int .i64 0, .int .i64 0, .int .i64 0, .slice none 0 0, .slice none 0 0, .slice none 0 0, .slice none 0 0, .slice none 0 0, .slice none 0 0, .slice none 0 0, .slice none 0 0, .slice none 0 0, .int .i64 0, .int .i64 0, .int .i64 0, .bool false]
    simp only [World.size_alloc, ha] at h1 h2
    exact ⟨_, rfl, h1.alloc _, h2, bnew (bnew (brefl w) _) _, by simp [ha]⟩
  rw [hW0]
  clear hW0
  have HT0 := Lib.hid T0
  have HR0 := Lib.hid R0
  obtain ⟨b, o', rfl, hbb, hcc⟩ := HS.out.base strc_len (by decide) (by omega)
  obtain ⟨f, hf⟩ : ∃ f, ws[0]? = some f := ⟨_, List.getElem?_eq_getElem (by rw [hlen.out]; omega)⟩
  have hf0 : ws.getD 0 [] = f := by rw [List.getD_eq_getElem?_getD, hf]; rfl
  have hc0 : W0.cell? ⟨b, o', none⟩ = some (.string (bstr f)) := keep_below (by
    have := hcc 0 f 0 _ hf rfl
    rwa [Nat.zero_mul, Nat.zero_add, Nat.add_zero] at this) k0
  have hzb := block_lt_of_cell hc0
  have i1 : (0 : Int) < (n : Int) := by omega
  have ef : (bstr f).toList = f := ByteArray.toList_eq _
  clear hcc T0 R0
  obtain ⟨th, hth⟩ : ∃ v, s.c.th = v := ⟨_, rfl⟩
  have HTHs := Lib.hid hth
  rw [hth] at g1
  clear hth
  have hfb : ((bstr f).toList == [99, 97, 108, 108]) = false := by
    rw [beq_eq_false_iff_ne, ef, ← hf0]
    exact hcall
  have HE0 : Hid (rLine s ws = rOther s ws) := by rw [Hid, rLine, if_neg hcall]
  have hcap := HS.out.cap
  have HS1 : Hid (Sl strc W0 (if c = 1 then some (⟨b, o', none⟩ : Addr) else some ⟨b, o' + 1, none⟩) (n - 1) (c - 1) (ws.drop 1)) := by
    have := (HS.out.below k0).from_ strc_len (k := 1) h1
    by_cases hc1 : c = 1
    · rw [if_pos hc1] at this
      rw [Hid, if_pos hc1]
      exact this
    · rw [if_neg hc1] at this
      have e : (Option.map (fun x => x.add (1 * 1)) (some (⟨b, o', none⟩ : Addr))) = some ⟨b, o' + 1, none⟩ := by simp [Addr.add]
      rw [e] at this
      rw [Hid, if_neg hc1]
      exact this
  have hcn : Hid (Calls Tryz.prog 68 #[.slice (if c = 1 then some (⟨b, o', none⟩ : Addr) else some ⟨b, o' + 1, none⟩) (n - 1) (c - 1)] W0 fun e w' => ∃ nv bn, e = .returned (.tuple #[nv, .bool bn]) ∧ NumP w' nv bn (ws.drop 1) ∧ Below W0.heap.size W0 w') := (rnumbers_any HS1.out (by omega) (fun x hx => HLW.out x (List.mem_of_mem_drop hx))).mono fun e w' q => nump_of q
  obtain ⟨S, hS⟩ : ∃ S, bstr f = S := ⟨_, rfl⟩
  rw [hS] at hfb hc0
  have hS' := Lib.hid hS
  have HF0 := Lib.hid hf0
  clear ef hf hf0 hS hcall
  go_upto_region 8 with (fail)
  go_cut [9, 10] (fun s9 s10 w' => ∃ nv bn, s9 = nv ∧ s10 = .bool bn ∧ Hid (NumP w' nv bn (ws.drop 1)) ∧ Below W0.heap.size W0 w')
  case first =>
    by_cases hc1 : c = 1
    · subst hc1
      obtain rfl : n = 1 := by omega
      have hc2 : Hid (Calls Tryz.prog 68 #[.slice (some ⟨b, o', none⟩) 0 0] W0 fun e w' => ∃ nv bn, e = .returned (.tuple #[nv, .bool bn]) ∧ NumP w' nv bn (ws.drop 1) ∧ Below W0.heap.size W0 w') := hcn.out
      clear hcn
      go_wp2_with (go_at_call 68; refine hc2.out.mono ?_; rintro e w1 ⟨nv, bn, rfl, hnp, hb1⟩; have HNP := Lib.hid hnp; clear hnp)
      go_meet
      case rel => exact ⟨nv, bn, rfl, rfl, HNP, hb1⟩
    · have hc2 : Hid (Calls Tryz.prog 68 #[.slice (some ⟨b, o' + 1, none⟩) (n - 1) (c - 1)] W0 fun e w' => ∃ nv bn, e = .returned (.tuple #[nv, .bool bn]) ∧ NumP w' nv bn (ws.drop 1) ∧ Below W0.heap.size W0 w') := by
        have := hcn.out
        rw [if_neg hc1] at this
        exact this
      have hc3 : 1 < c := by omega
      clear hcn hc1
      go_wp2_with (go_at_call 68; refine hc2.out.mono ?_; rintro e w1 ⟨nv, bn, rfl, hnp, hb1⟩; have HNP := Lib.hid hnp; clear hnp)
      go_meet
      case rel => exact ⟨nv, bn, rfl, rfl, HNP, hb1⟩
  case rest =>
    obtain ⟨_, bn, rfl, rfl, HNP, hb1⟩ := hcut
    have A1 := HT0.out.below_ hb1
    have R1 := HR0.out.below_ hb1
    have hc1 := keep_below hc0 hb1
    have kb1 := bnext k0 hb1
    clear hcn HS1 hfb
    go_upto_region 11 with (fail)
    obtain ⟨W2, hW2, N2, A2, R2, k2⟩ : ∃ W2, wc.alloc (.cells #[.string ⟨#[112, 105, 99, 107]⟩, .string ⟨#[115, 116, 97, 108, 108]⟩, .string ⟨#[119, 97, 107, 101]⟩, .string ⟨#[107, 105, 108, 108]⟩] 9) = W2 ∧ Blk W2 wc.heap.size 9 #[.string ⟨#[112, 105, 99, 107]⟩, .string ⟨#[115, 116, 97, 108, 108]⟩, .string ⟨#[119, 97, 107, 101]⟩, .string ⟨#[107, 105, 108, 108]⟩] ∧ Blk W2 a 76 cs ∧ Blk W2 (a + 1) 76 #[.int .i64 0, .int .i64 0, .int .i64 0, .int .i64 0, .int .i64 0, .int .i64 0, .int .i64 0, .int .i64 0, .int .i64 0, .int .i64 0, .int .i64 0, .int .i64 0, .int .i64 0, .int .i64 0, .slice none 0 0, .slice none 0 0, .slice none 0 0, .slice none 0 0, .slice none 0 0, .slice none 0 0, .slice none 0 0, .slice none 0 0, .slice none 0 0, .int .i64 0, .int .i64 0, .int .i64 0, .bool false] ∧ Below wc.heap.size wc W2 := ⟨_, rfl, Blk.new _ _ _, A1.alloc _, R1.alloc _, bnew (brefl wc) _⟩
    rw [hW2]
    obtain ⟨q4, hq4⟩ : ∃ q4, wc.heap.size = q4 := ⟨_, rfl⟩
    rw [hq4] at N2 ⊢
    have HNm : Hid (∀ (k : Nat), k < 4 → W2.cell? ⟨q4, k, none⟩ = some (.string (bstr (wd4 k)))) := fun k hk => by
      rw [N2.cell k]
      rcases (by omega : k = 0 ∨ k = 1 ∨ k = 2 ∨ k = 3) with rfl | rfl | rfl | rfl <;> rfl
    have hc2 := keep_below hc1 k2
    have HNP2 : Hid (∀ (k : Nat) (v : Int) (g : Nat), wc.cell? ⟨g, k, none⟩ = some (.int .i64 v) → W2.cell? ⟨g, k, none⟩ = some (.int .i64 v)) := fun k v g h => keep_below h k2
    have kb2 := bnext kb1 k2
    have HA2 := Lib.hid A2
    have HR2 := Lib.hid R2
    clear hW2 A1 R1 hc1 A2 R2 N2 k2 hq4 hb1 kb1
    go_wp2_with fail
    go_loopg [11, 13] 4 (fun gk s11 s13 wr => ∃ (k : Nat) (o : Int), k + gk = 4 ∧ s13 = .int .i64 k ∧ s11 = .int .i64 o ∧ Hid (whInv k o f) ∧ Below W2.heap.size W2 wr)
    case atStart => exact ⟨0, -1, rfl, rfl, rfl, .inl ⟨rfl, fun j hj => by omega⟩, brefl W2⟩
    case round =>
      obtain ⟨k, o, hk, rfl, rfl, hO, hbr⟩ := hrel
      by_cases hlt : k < 4
      · have i2 : (0 : Int) ≤ (k : Int) := by omega
        have i3 : (k : Int) < 4 := by omega
        have ck : IntKind.i64.wrap ((k : Int) + 1) = (k : Int) + 1 := IntWalk.i64_in _ (by omega)
        have d0 := keep_below (HNm.out k hlt) hbr
        have d1 := keep_below hc2 hbr
        have z0' := block_lt_of_cell d0
        have z1' := block_lt_of_cell d1
        by_cases hq : wd4 k = f
        · have hO2 : Hid (whInv (k + 1) (k : Int) f) := .inr ⟨k, by omega, rfl, hq⟩
          have hqs : bstr (wd4 k) = S := by rw [hq]; exact hS'.out
          rw [hqs] at d0
          have hss : (S.toList == S.toList) = true := beq_self_eq_true _
          clear hq hqs hO
          go_upto_region 14 with fail
          go_quiet (fail)
          go_wp2_with fail
          go_roundg (gk - 1)
          case measure => omega
          case rel => exact ⟨k + 1, (k : Int), by omega, by go_num, rfl, hO2, below_drewN hbr _⟩
        · have hO2 : Hid (whInv (k + 1) o f) := by
            rcases hO.out with ⟨h1, h2⟩ | ⟨j, h1, h2, h3⟩
            · refine .inl ⟨h1, fun j hj => ?_⟩
              rcases Nat.lt_or_ge j k with q | q
              · exact h2 j q
              · obtain rfl : j = k := by omega
                exact hq
            · exact .inr ⟨j, by omega, h2, h3⟩
          have tq : ((bstr (wd4 k)).toList == S.toList) = false := by
            rw [← hS'.out, beq_eq_false_iff_ne, ByteArray.toList_eq, ByteArray.toList_eq]
            exact hq
          obtain ⟨D, hD⟩ : ∃ D, bstr (wd4 k) = D := ⟨_, rfl⟩
          rw [hD] at d0 tq
          clear hq hO hD
          go_upto_region 14 with fail
          go_quiet (fail)
          go_wp2_with fail
          go_roundg (gk - 1)
          case measure => omega
          case rel => exact ⟨k + 1, o, by omega, by go_num, rfl, hO2, below_drewN hbr _⟩
      · obtain rfl : k = 4 := by omega
        obtain rfl : gk = 0 := by omega
        have hO2 := Lib.hid (whInv_end hO.out)
        have A3 := HA2.out.below_ hbr
        have R3 := Lib.hid (HR2.out.below_ hbr)
        have kb3 := bnext kb2 hbr
        have y1 := A3.cell_ (i := 1) g1
        have za := A3.lt
        have HBad : Hid (rOther s ws = none → rLine s ws = none) := fun q => by rw [HE0.out, q]
        clear hO hc2
        go_upto_region 16 with fail
        cases bn with
        | false =>
          have HE : Hid (rLine s ws = none) := HBad.out (by
            have := HNP.out
            unfold NumP at this
            rw [rOther]
            cases hn : numsI (ws.drop 1) with
            | none => rfl
            | some ns => rw [hn] at this; exact absurd this.1 (by decide))
          go_quiet (fail)
          go_upto_region 17 with (fail)
          have tok8 : True := trivial; have tok9 : True := trivial
          go_wp2_with (first | (have _t := tok8; refine wpList_load_row (o := ⟨some 129, _, _, _, _, _⟩) rfl 76 (.tmp 2) rfl a rfl 76 _ _ _ (A3.drewN nq) Tryz.underlying76 rfl hi ?_; clear tok8 _t) | (have _t := tok9; refine wpList_store_row (o := ⟨none, .store 76 (.tmp 4) (.tmp 129), _, _, _, _⟩) rfl 76 (.tmp 4) (.tmp 129) rfl (a + 1) _ rfl rfl 76 _ (R3.out.drewN nq) hi hold hone ?_; clear tok9 _t))
          have HX : RLineR w B N s us EA ec (rLine s ws) (.returned (.tuple #[.agg cs, .bool false])) ((wr.drewN nq).setRow (a + 1) cs) := by
            rw [HE.out]
            exact ⟨Keeps.of_below ((keeps_row _ _ _).below (below_drewN kb3 nq) (by have := Blk.lt (R3.out.drewN nq); omega) (fun x e _ => by have e' : x = a + 1 := e; omega)), by rw [HCS.out]⟩
          exact bodyPost_ret (results_line Tryz.results33 rfl rfl (Blk.row (R3.out.drewN nq) _) hi) rfl HX
        | true =>
          obtain ⟨ns, hns⟩ : ∃ ns, numsI (ws.drop 1) = some ns := by
            cases hn : numsI (ws.drop 1) with
            | none => have := HNP.out; unfold NumP at this; rw [hn] at this; cases this
            | some ns => exact ⟨ns, rfl⟩
          have hnp := HNP.out
          unfold NumP at hnp
          rw [hns] at hnp
          obtain ⟨_, AI, dI, rfl, hcI⟩ := hnp
          have HCI : Hid (∀ (k : Nat) (v : Int), ns[k]? = some v → ∃ g, AI = some ⟨g, 0, none⟩ ∧ wr.cell? ⟨g, k, none⟩ = some (.int .i64 v)) := fun k v h => by
            obtain ⟨g, h1, h2⟩ := hcI k v h
            exact ⟨g, h1, keep_below (HNP2.out k v g h2) hbr⟩
          have HE1 : Hid (rOther s ws = (whatOf f).bind fun wh => if (wh = 0 → ns.length = 2) ∧ (0 < wh → ns.length = 1) ∧ 0 ≤ ns.getD 0 0 ∧ ns.getD 0 0 < s.c.th ∧ (wh = 0 → 1 ≤ rMany wh ns ∧ ¬ (s.done = true ∧ s.was = ⟨ns.getD 0 0, 0⟩)) then some { s with done := true, was := ⟨ns.getD 0 0, (wh : Int)⟩, es := s.es ++ List.replicate (min (rMany wh ns).toNat (60001 - s.es.length)) ⟨ns.getD 0 0, (wh : Int)⟩ } else none) := by rw [Hid, rOther, hns, Option.bind_some, HF0.out]
          obtain ⟨NL, hNL⟩ : ∃ NL, ns.length = NL := ⟨_, rfl⟩
          have HNL := Lib.hid hNL
          rw [hNL]
          clear hcI hns HNP hNL
          rcases hO2.out with ⟨ho, hwo⟩ | ⟨j, hj, ho, hwo⟩
          · have HE : Hid (rLine s ws = none) := HBad.out (by rw [HE1.out, hwo]; rfl)
            subst ho
            clear hwo
            go_quiet (fail)
            go_upto_region 17 with (fail)
            have tok8 : True := trivial; have tok9 : True := trivial
            go_wp2_with (first | (have _t := tok8; refine wpList_load_row (o := ⟨some 129, _, _, _, _, _⟩) rfl 76 (.tmp 2) rfl a rfl 76 _ _ _ (A3.drewN nq) Tryz.underlying76 rfl hi ?_; clear tok8 _t) | (have _t := tok9; refine wpList_store_row (o := ⟨none, .store 76 (.tmp 4) (.tmp 129), _, _, _, _⟩) rfl 76 (.tmp 4) (.tmp 129) rfl (a + 1) _ rfl rfl 76 _ (R3.out.drewN nq) hi hold hone ?_; clear tok9 _t))
            have HX : RLineR w B N s us EA ec (rLine s ws) (.returned (.tuple #[.agg cs, .bool false])) ((wr.drewN nq).setRow (a + 1) cs) := by
              rw [HE.out]
              exact ⟨Keeps.of_below ((keeps_row _ _ _).below (below_drewN kb3 nq) (by have := Blk.lt (R3.out.drewN nq); omega) (fun x e _ => by have e' : x = a + 1 := e; omega)), by rw [HCS.out]⟩
            exact bodyPost_ret (results_line Tryz.results33 rfl rfl (Blk.row (R3.out.drewN nq) _) hi) rfl HX
          · subst ho
            have HWO : Hid (rOther s ws = if (j = 0 → NL = 2) ∧ (0 < j → NL = 1) ∧ 0 ≤ ns.getD 0 0 ∧ ns.getD 0 0 < s.c.th ∧ (j = 0 → 1 ≤ rMany j ns ∧ ¬ (s.done = true ∧ s.was = ⟨ns.getD 0 0, 0⟩)) then some { s with done := true, was := ⟨ns.getD 0 0, (j : Int)⟩, es := s.es ++ List.replicate (min (rMany j ns).toNat (60001 - s.es.length)) ⟨ns.getD 0 0, (j : Int)⟩ } else none) := by rw [Hid, HE1.out, hwo, Option.bind_some, HNL.out]
            clear hwo HE1
            rcases Nat.eq_zero_or_pos j with rfl | hj0
            · by_cases hl2 : NL = 2
              · subst hl2
                obtain ⟨g, hAI, n0⟩ := HCI.out 0 _ (getD_ns (ns := ns) (k := 0) (by rw [HNL.out]; omega))
                subst hAI
                obtain ⟨g', hAI', n1⟩ := HCI.out 1 _ (getD_ns (ns := ns) (k := 1) (by rw [HNL.out]; omega))
                injection hAI' with hAI'
                injection hAI' with hAI'
                subst hAI'
                obtain ⟨v1, hv1⟩ : ∃ v, ns.getD 1 0 = v := ⟨_, rfl⟩
                rw [hv1] at n1
                obtain ⟨v0, hv0⟩ : ∃ v, ns.getD 0 0 = v := ⟨_, rfl⟩
                rw [hv0] at n0 HWO
                have HTH : Hid (s.c.th = th) := HTHs
                have zn0 := block_lt_of_cell n0
                by_cases h0 : v0 < 0
                · have HE : Hid (rLine s ws = none) := HBad.out (by rw [HWO.out, if_neg (fun q => by have := q.2.2.1; omega)])
                  clear HWO
                  go_quiet (fail)
                  go_upto_region 17 with (fail)
                  have tok8 : True := trivial; have tok9 : True := trivial
                  go_wp2_with (first | (have _t := tok8; refine wpList_load_row (o := ⟨some 129, _, _, _, _, _⟩) rfl 76 (.tmp 2) rfl a rfl 76 _ _ _ (A3.drewN nq) Tryz.underlying76 rfl hi ?_; clear tok8 _t) | (have _t := tok9; refine wpList_store_row (o := ⟨none, .store 76 (.tmp 4) (.tmp 129), _, _, _, _⟩) rfl 76 (.tmp 4) (.tmp 129) rfl (a + 1) _ rfl rfl 76 _ (R3.out.drewN nq) hi hold hone ?_; clear tok9 _t))
                  have HX : RLineR w B N s us EA ec (rLine s ws) (.returned (.tuple #[.agg cs, .bool false])) ((wr.drewN nq).setRow (a + 1) cs) := by
                    rw [HE.out]
                    exact ⟨Keeps.of_below ((keeps_row _ _ _).below (below_drewN kb3 nq) (by have := Blk.lt (R3.out.drewN nq); omega) (fun x e _ => by have e' : x = a + 1 := e; omega)), by rw [HCS.out]⟩
                  exact bodyPost_ret (results_line Tryz.results33 rfl rfl (Blk.row (R3.out.drewN nq) _) hi) rfl HX
                have t0 : decide (v0 < 0) = false := decide_eq_false h0
                by_cases h1' : th ≤ v0
                · have HE : Hid (rLine s ws = none) := HBad.out (by rw [HWO.out, if_neg (fun q => by have := q.2.2.2.1; have := HTH.out; omega)])
                  clear HWO
                  go_quiet (fail)
                  go_upto_region 17 with (fail)
                  have tok8 : True := trivial; have tok9 : True := trivial
                  go_wp2_with (first | (have _t := tok8; refine wpList_load_row (o := ⟨some 129, _, _, _, _, _⟩) rfl 76 (.tmp 2) rfl a rfl 76 _ _ _ (A3.drewN nq) Tryz.underlying76 rfl hi ?_; clear tok8 _t) | (have _t := tok9; refine wpList_store_row (o := ⟨none, .store 76 (.tmp 4) (.tmp 129), _, _, _, _⟩) rfl 76 (.tmp 4) (.tmp 129) rfl (a + 1) _ rfl rfl 76 _ (R3.out.drewN nq) hi hold hone ?_; clear tok9 _t))
                  have HX : RLineR w B N s us EA ec (rLine s ws) (.returned (.tuple #[.agg cs, .bool false])) ((wr.drewN nq).setRow (a + 1) cs) := by
                    rw [HE.out]
                    exact ⟨Keeps.of_below ((keeps_row _ _ _).below (below_drewN kb3 nq) (by have := Blk.lt (R3.out.drewN nq); omega) (fun x e _ => by have e' : x = a + 1 := e; omega)), by rw [HCS.out]⟩
                  exact bodyPost_ret (results_line Tryz.results33 rfl rfl (Blk.row (R3.out.drewN nq) _) hi) rfl HX
                have t1' : decide (th ≤ v0) = false := decide_eq_false h1'
                go_quiet (fail)
                obtain ⟨W3, hW3, A3', R3', n0', n1', kb3'⟩ : ∃ W3, wr.drewN nq = W3 ∧ Blk W3 a 76 cs ∧ Blk W3 (a + 1) 76 #[.int .i64 0, .int .i64 0, .int .i64 0, .int .i64 0, .int .i64 0, .int .i64 0, .int .i64 0, .int .i64 0, .int .i64 0, .int .i64 0, .int .i64 0, .int .i64 0, .int .i64 0, .int .i64 0, .slice none 0 0, .slice none 0 0, .slice none 0 0, .slice none 0 0, .slice none 0 0, .slice none 0 0, .slice none 0 0, .slice none 0 0, .slice none 0 0, .int .i64 0, .int .i64 0, .int .i64 0, .bool false] ∧ W3.cell? ⟨g, 0, none⟩ = some (.int .i64 v0) ∧ W3.cell? ⟨g, 1, none⟩ = some (.int .i64 v1) ∧ Below w.heap.size w W3 := ⟨_, rfl, A3.drewN nq, R3.out.drewN nq, n0, n1, below_drewN kb3 nq⟩
                rw [hW3]
                clear hW3
                have zn0' := block_lt_of_cell n0'
                go_upto_region 19 with (fail)
                obtain ⟨eb, heb⟩ : ∃ eb, W3.heap.size = eb := ⟨_, rfl⟩
                obtain ⟨W4, hW4, A4, R4, E4, n1'', kb4⟩ : ∃ W4, W3.alloc (.cells #[.int .i64 v0, .int .i64 0] 61) = W4 ∧ Blk W4 a 76 cs ∧ Blk W4 (a + 1) 76 #[.int .i64 0, .int .i64 0, .int .i64 0, .int .i64 0, .int .i64 0, .int .i64 0, .int .i64 0, .int .i64 0, .int .i64 0, .int .i64 0, .int .i64 0, .int .i64 0, .int .i64 0, .int .i64 0, .slice none 0 0, .slice none 0 0, .slice none 0 0, .slice none 0 0, .slice none 0 0, .slice none 0 0, .slice none 0 0, .slice none 0 0, .slice none 0 0, .int .i64 0, .int .i64 0, .int .i64 0, .bool false] ∧ Blk W4 eb 61 #[.int .i64 v0, .int .i64 0] ∧ W4.cell? ⟨g, 1, none⟩ = some (.int .i64 v1) ∧ Below w.heap.size w W4 := ⟨_, rfl, A3'.alloc _, R3'.alloc _, heb ▸ Blk.new _ _ _, keep_below n1' (bnew (brefl _) _), bnew kb3' _⟩
                rw [hW4]
                try rw [heb]
                have hae : a + 1 < eb := by have := R3'.lt; omega
                have hwe : w.heap.size ≤ eb := by omega
                clear hW4 heb n0 n0' y1 A3 za zn0 zn0'
                have zn1 := block_lt_of_cell n1''
                by_cases hv11 : v1 < 1
                · have HE : Hid (rLine s ws = none) := HBad.out (by rw [HWO.out, if_neg (fun q => by have := (q.2.2.2.2 rfl).1; rw [rMany, if_pos rfl, hv1] at this; omega)])
                  clear HWO
                  go_upto_region 23 with (fail)
                  have tok8 : True := trivial; have tok9 : True := trivial
                  go_wp2_with (first | (have _t := tok8; refine wpList_load_row (o := ⟨some 152, _, _, _, _, _⟩) rfl 76 (.tmp 2) rfl a rfl 76 _ _ _ A4 Tryz.underlying76 rfl hi ?_; clear tok8 _t) | (have _t := tok9; refine wpList_store_row (o := ⟨none, .store 76 (.tmp 4) (.tmp 152), _, _, _, _⟩) rfl 76 (.tmp 4) (.tmp 152) rfl (a + 1) _ rfl rfl 76 _ R4 hi hold hone ?_; clear tok9 _t))
                  have HX : RLineR w B N s us EA ec (rLine s ws) (.returned (.tuple #[.agg cs, .bool false])) (W4.setRow (a + 1) cs) := by
                    rw [HE.out]
                    exact ⟨Keeps.of_below ((keeps_row _ _ _).below kb4 (by have := Blk.lt R4; omega) (fun x e _ => by have e' : x = a + 1 := e; omega)), by rw [HCS.out]⟩
                  exact bodyPost_ret (results_line Tryz.results33 rfl rfl (Blk.row R4 _) hi) rfl HX
                have t3 : decide (v1 < 1) = false := decide_eq_false hv11
                have HEG0 : Hid (¬ (s.done = true ∧ s.was = ⟨v0, 0⟩) → rLine s ws = some { s with done := true, was := ⟨v0, 0⟩, es := s.es ++ List.replicate (min v1.toNat (60001 - s.es.length)) ⟨v0, 0⟩ }) := fun q => by
                  rw [HE0.out, HWO.out, if_pos ⟨fun _ => rfl, fun q => by omega, by omega, by have := HTH.out; omega, fun _ => ⟨by rw [rMany, if_pos rfl, hv1]; omega, q⟩⟩, rMany, if_pos rfl, hv1]
                  rfl
                have hr0 : rMany 0 ns = v1 := by rw [rMany, if_pos rfl, hv1]
                cases hdn : s.done with
                | false =>
                  have HEG := Lib.hid (HEG0.out (fun q => by rw [hdn] at q; exact absurd q.1 (by decide)))
                  rw [hdn] at g26
                  have y26 := A4.cell_ (i := 26) g26
                  have za4 := A4.lt
                  clear HEG0 HWO hdn hr0 hv1
                  go_upto_region 24 with (fail)
                  clear y26 za4
                  obtain ⟨ln, hln⟩ : ∃ ln, s.es.length = ln := ⟨_, rfl⟩
                  obtain ⟨M, hM⟩ : ∃ M, min (v1 : Int).toNat (60001 - ln) = M := ⟨_, rfl⟩
                  obtain ⟨s', hs'⟩ : ∃ s', ({ s with done := true, was := ⟨v0, 0⟩, es := s.es ++ List.replicate M ⟨v0, 0⟩ } : St) = s' := ⟨_, rfl⟩
                  have HE : Hid (rLine s ws = some s') := by rw [Hid, HEG.out, hln, hM, hs']
                  obtain ⟨s1, hs1⟩ : ∃ s1, ({ s with done := true, was := ⟨v0, 0⟩ } : St) = s1 := ⟨_, rfl⟩
                  have hl6 : ln ≤ 60001 := hln ▸ HT.out.es
                  have hM1 : M ≤ (v1 : Int).toNat ∧ ln + M ≤ 60001 ∧ (M = (v1 : Int).toNat ∨ 60001 ≤ ln + M) := by rw [← hM]; omega
                  have y24 := A4.cell_ (i := 24) g24
                  have y25 := A4.cell_ (i := 25) g25
                  have y26 := A4.cell_ (i := 26) g26
                  have f24 := A4.frozen 24
                  have f25 := A4.frozen 25
                  have f26 := A4.frozen 26
                  have x0 := E4.cell 0
                  have x1 := E4.cell 1
                  have z4 := A4.lt
                  have z5 := E4.lt
                  go_upto_region 26 with (fail)
                  obtain ⟨V, hV, TV, RV, EV, OV, OE, kV⟩ : ∃ V, ((W4.setCell ⟨a, 26, none⟩ (.bool true)).setCell ⟨a, 24, none⟩ (.int .i64 v0)).setCell ⟨a, 25, none⟩ (.int .i64 0) = V ∧ Blk V a 76 (rtc s1 us (.slice EA ln ec)).toArray ∧ Blk V (a + 1) 76 #[.int .i64 0, .int .i64 0, .int .i64 0, .int .i64 0, .int .i64 0, .int .i64 0, .int .i64 0, .int .i64 0, .int .i64 0, .int .i64 0, .int .i64 0, .int .i64 0, .int .i64 0, .int .i64 0, .slice none 0 0, .slice none 0 0, .slice none 0 0, .slice none 0 0, .slice none 0 0, .slice none 0 0, .slice none 0 0, .slice none 0 0, .slice none 0 0, .int .i64 0, .int .i64 0, .int .i64 0, .bool false] ∧ Blk V eb 61 #[.int .i64 v0, .int .i64 0] ∧ OW V B us s.ps ∧ V.ownsRow B 61 2 (.slice EA ln ec) ln (s.es.flatMap enc_) ∧ Keeps (eblk EA ln ec) w V := by
                    have k4 := (((Keeps.refl (fun b => b = a) W4).setCell (p := ⟨a, 26, none⟩) (fun _ => rfl) (.bool true)).setCell (p := ⟨a, 24, none⟩) (fun _ => rfl) (.int .i64 v0)).setCell (p := ⟨a, 25, none⟩) (fun _ => rfl) (.int .i64 0)
                    have RT4 := HT.out.below kb4
                    refine ⟨_, rfl, ?_, k4.blk R4 (by omega), k4.blk E4 (by omega), RT4.o.keepsT k4 (fun b e _ => ⟨_, _, e ▸ A4, by decide⟩), ?_, Keeps.of_below (k4.below kb4 (by omega) (fun x e _ => by have e' : x = a := e; omega))⟩
                    · have := ((A4.set_ 26 (.bool true)).set_ 24 (.int .i64 v0)).set_ 25 (.int .i64 0)
                      rw [← HCS.out] at this
                      simp only [List.setIfInBounds_toArray] at this
                      rw [rtc_done h8, rtc_was h8, hln] at this
                      rw [← hs1]
                      exact this
                    · have := k4.own RT4.e (fun q hq e => by have e' : q = a := e; subst e'; exact own_ne_blk RT4.e A4 (by decide) hq)
                      rw [hln] at this
                      exact this
                  rw [hV]
                  have HLN := Lib.hid hln
                  have HM := Lib.hid hM
                  have HS1 := Lib.hid hs1
                  have HSP := Lib.hid hs'
                  have HRow : Hid (∀ q, (Value.slice EA ln ec).ownBlock = some q → q ≠ eb ∧ (eblk EA ln ec q ∨ w.heap.size ≤ q)) := fun q hq => ⟨fun e => by
                    have := own_lt (hln ▸ HT.out.e) q hq
                    omega, .inl hq⟩
                  have HTV := Lib.hid TV
                  have HRV := Lib.hid RV
                  have HEV := Lib.hid EV
                  have HOV := Lib.hid OV
                  have HOE := Lib.hid OE
                  have HKV := Lib.hid kV
                  have hBV : B ≤ V.heap.size := Nat.le_trans hB kV.size
                  obtain ⟨i1, E3⟩ := elem_en
                  clear hV hln hM hs1 hs' y24 y25 y26 f24 f25 f26 x0 x1 z5 A4 R4 E4 TV RV EV OV OE kV g24 g25 g26 g1
                  go_wp2_with fail
                  go_loopg [16] M (fun gk s16 wr => ∃ (k cu : Nat) (EA' : Option Addr) (ec' : Nat), k + gk = M ∧ s16 = .int .i64 k ∧ Hid (cu = ln + k) ∧ Hid (Blk wr a 76 (rtc s1 us (.slice EA' cu ec')).toArray) ∧ Hid (Blk wr (a + 1) 76 #[.int .i64 0, .int .i64 0, .int .i64 0, .int .i64 0, .int .i64 0, .int .i64 0, .int .i64 0, .int .i64 0, .int .i64 0, .int .i64 0, .int .i64 0, .int .i64 0, .int .i64 0, .int .i64 0, .slice none 0 0, .slice none 0 0, .slice none 0 0, .slice none 0 0, .slice none 0 0, .slice none 0 0, .slice none 0 0, .slice none 0 0, .slice none 0 0, .int .i64 0, .int .i64 0, .int .i64 0, .bool false]) ∧ Hid (Blk wr eb 61 #[.int .i64 v0, .int .i64 0]) ∧ Hid (OW wr B us s.ps) ∧ Hid (wr.ownsRow B 61 2 (.slice EA' cu ec') cu (s.es.flatMap enc_ ++ (List.replicate k (⟨v0, 0⟩ : En)).flatMap enc_)) ∧ Hid (∀ q, (Value.slice EA' cu ec').ownBlock = some q → q ≠ eb ∧ (eblk EA ln ec q ∨ w.heap.size ≤ q)) ∧ Hid (Keeps (eblk EA ln ec) w wr))
                  case atStart => exact ⟨0, ln, EA, ec, by omega, rfl, rfl, HTV, HRV, HEV, HOV, by simpa [Hid] using HOE.out, HRow, HKV⟩
                  case round =>
                    obtain ⟨k, cu, EA', ec', hk, rfl, hcu, HT6, HR6, HC6, HO6, HE6, HW6, HK6⟩ := hrel
                    have hcu' := hcu.out
                    have y22 : wr.cell? ⟨a, 22, none⟩ = some (.slice EA' cu ec') := HT6.out.cell_ (by rw [List.getElem?_toArray]; exact rtc_ent h8)
                    have zr := HT6.out.lt
                    by_cases hlt : k < M
                    · obtain ⟨g', rfl⟩ : ∃ g', gk = g' + 1 := ⟨gk - 1, by omega⟩
                      have t1 : (k : Int) < v1 := by omega
                      have t2 : (cu : Int) < 60001 := by omega
                      have ck : IntKind.i64.wrap ((k : Int) + 1) = (k : Int) + 1 := IntWalk.i64_in _ (by omega)
                      obtain ⟨cs6, hcs6⟩ : ∃ cs6, (rtc s1 us (.slice EA' cu ec')).toArray = cs6 := ⟨_, rfl⟩
                      have T6 := HT6.out
                      rw [hcs6] at T6
                      have hck : cs6[22]? = some (.slice EA' cu ec') := by rw [← hcs6, List.getElem?_toArray]; exact rtc_ent h8
                      have HCS6 := Lib.hid hcs6
                      have C6 := HC6.out
                      have x0 := C6.cell 0
                      have x1 := C6.cell 1
                      have own5 := HE6.out
                      have hebw := C6.lt
                      have hBW : B ≤ wr.heap.size := Nat.le_trans hB HK6.out.size
                      have hwW := HK6.out.size
                      clear hcs6 hcu'
                      go_upto_region 29 with (fail)
                      have tok11 : True := trivial
                      go_upto_region 28 with (have _t := tok11; at_builtin; refine wpList_app (ys := [.int .i64 v0, .int .i64 0]) (m := 1) E3 rfl (.tmp 170) (.tmp 172) rfl B rfl (own5.alloc _) rfl rfl (Rd.new _ _ _ rfl) (by simp [Value.oneCell']) (by unfold maxLen; omega) (by omega) (by simp; omega) ?_; intro A8 c8 w8 own8 hg8 h38; have G8 := (T6.alloc (.cells #[.int .i64 v0, .int .i64 0] 61)).grown hg8 (fun q1 => own_ne_blk own5 T6 (by decide) q1.symm); have D8 := (C6.alloc (.cells #[.int .i64 v0, .int .i64 0] 61)).grown hg8 (fun q1 => (HW6.out eb q1.symm).1 rfl); have Q8 := (HR6.out.alloc (.cells #[.int .i64 v0, .int .i64 0] 61)).grown hg8 (fun q1 => own_ne_blk own5 HR6.out (by decide) q1.symm); have f8 := G8.frozen 22; have v8 := (G8.cell 22).trans hck; have z8 := G8.lt; clear tok11 _t)
                      obtain ⟨U, hU, H1, H1b, H2, H3, H4, H5, H6⟩ : ∃ U, w8.setCell ⟨a, 22, none⟩ (.slice A8 (cu + 1) c8) = U ∧ Hid (Blk U a 76 (rtc s1 us (.slice A8 (cu + 1) c8)).toArray) ∧ Hid (Blk U (a + 1) 76 #[.int .i64 0, .int .i64 0, .int .i64 0, .int .i64 0, .int .i64 0, .int .i64 0, .int .i64 0, .int .i64 0, .int .i64 0, .int .i64 0, .int .i64 0, .int .i64 0, .int .i64 0, .int .i64 0, .slice none 0 0, .slice none 0 0, .slice none 0 0, .slice none 0 0, .slice none 0 0, .slice none 0 0, .slice none 0 0, .slice none 0 0, .slice none 0 0, .int .i64 0, .int .i64 0, .int .i64 0, .bool false]) ∧ Hid (Blk U eb 61 #[.int .i64 v0, .int .i64 0]) ∧ Hid (OW U B us s.ps) ∧ Hid (U.ownsRow B 61 2 (.slice A8 (cu + 1) c8) (cu + 1) (s.es.flatMap enc_ ++ (List.replicate (k + 1) (⟨v0, 0⟩ : En)).flatMap enc_)) ∧ Hid (∀ q, (Value.slice A8 (cu + 1) c8).ownBlock = some q → q ≠ eb ∧ (eblk EA ln ec q ∨ w.heap.size ≤ q)) ∧ Hid (Keeps (eblk EA ln ec) w U) := by
                        have kg : Keeps (fun b => (Value.slice EA' cu ec').ownBlock = some b) wr w8 := ((Keeps.refl (fun b => (Value.slice EA' cu ec').ownBlock = some b) wr).alloc (.cells #[.int .i64 v0, .int .i64 0] 61)).grown hg8 (fun k h _ => h)
                        have k4 := (Keeps.refl (fun b => b = a) w8).setCell (p := ⟨a, 22, none⟩) (fun _ => rfl) (.slice A8 (cu + 1) c8)
                        have hgt : ∀ b, (Value.slice EA' cu ec').ownBlock = some b → b < wr.heap.size → ∃ cs, Blk wr b 61 cs := fun b e _ => own_blk own5 e
                        have O8 := (HO6.out.keepsT kg (fun b e hb => by obtain ⟨cs, q⟩ := hgt b e hb; exact ⟨_, cs, q, by decide⟩)).keepsT k4 (fun b e _ => ⟨_, _, e ▸ G8, by decide⟩)
                        have T9 := G8.set_ 22 (.slice A8 (cu + 1) c8)
                        rw [← HCS6.out, List.setIfInBounds_toArray, rtc_sete h8 s1.es] at T9
                        refine ⟨_, rfl, T9, k4.blk Q8 (by omega), k4.blk D8 (by omega), O8, ?_, ?_, ?_⟩
                        · have := k4.own own8 (fun q hq e => by have e' : q = a := e; rw [e'] at hq; exact own_ne_blk own8 G8 (by decide) hq)
                          rw [List.append_assoc] at this
                          have e1 : (List.replicate (k + 1) (⟨v0, 0⟩ : En)).flatMap enc_ = (List.replicate k (⟨v0, 0⟩ : En)).flatMap enc_ ++ [.int .i64 v0, .int .i64 0] := by
                            rw [List.replicate_succ', List.flatMap_append]
                            rfl
                          rw [Hid, e1]
                          exact this
                        · intro q hq
                          rcases h38 with e | e
                          · exact HW6.out q (e ▸ hq)
                          · rw [e] at hq
                            injection hq with hq
                            have : (wr.alloc (.cells #[.int .i64 v0, .int .i64 0] 61)).heap.size = wr.heap.size + 1 := by simp
                            exact ⟨by omega, .inr (by omega)⟩
                        · exact (HK6.out.trans kg (fun b e hb => (HW6.out b e).2.elim id (fun q => by omega))).trans k4 (fun b e hb => by have e' : b = a := e; omega)
                      rw [hU]
                      clear hU own8 hg8 h38 G8 D8 Q8 f8 v8 z8 T6 C6 own5 hck x0 x1
                      go_wp2_with fail
                      go_roundg g'
                      case measure => omega
                      case rel => exact ⟨k + 1, cu + 1, A8, c8, by omega, by go_num, by have := hcu.out; show _ = _; omega, H1, H1b, H2, H3, H4, H5, H6⟩
                    · obtain rfl : k = M := by omega
                      obtain rfl : gk = 0 := by omega
                      have hel : s'.es.length = cu := by rw [← HSP.out]; show (s.es ++ List.replicate k _).length = cu; rw [List.length_append, List.length_replicate, HLN.out]; exact hcu'.symm
                      have hrt : rtc s1 us (.slice EA' cu ec') = rtc s' us (.slice EA' s'.es.length ec') := by rw [hel, ← HSP.out, ← HS1.out]; rfl
                      have T9 : Blk wr a 76 (rtc s' us (.slice EA' s'.es.length ec')).toArray := by rw [← hrt]; exact HT6.out
                      have hi' := info_rtc (s := s') (us := us) (ev := .slice EA' s'.es.length ec') h8
                      have hone' := rtc_one (s := s') HO6.out.pin EA' s'.es.length ec'
                      have hold' : (#[.int .i64 0, .int .i64 0, .int .i64 0, .int .i64 0, .int .i64 0, .int .i64 0, .int .i64 0, .int .i64 0, .int .i64 0, .int .i64 0, .int .i64 0, .int .i64 0, .int .i64 0, .int .i64 0, .slice none 0 0, .slice none 0 0, .slice none 0 0, .slice none 0 0, .slice none 0 0, .slice none 0 0, .slice none 0 0, .slice none 0 0, .slice none 0 0, .int .i64 0, .int .i64 0, .int .i64 0, .bool false] : Array Value).size = (rtc s' us (.slice EA' s'.es.length ec')).toArray.size := by rw [List.size_toArray, List.size_toArray, rtc_len h8]; rfl
                      have R9 := HR6.out
                      have HX : RLineR w B N s us EA ec (rLine s ws) (.returned (.tuple #[.agg (rtc s' us (.slice EA' s'.es.length ec')).toArray, .bool true])) (wr.setRow (a + 1) (rtc s' us (.slice EA' s'.es.length ec')).toArray) := by
                        have kr := keeps_row wr (a + 1) (rtc s' us (.slice EA' s'.es.length ec')).toArray
                        rw [HE.out]
                        refine ⟨by rw [HLN.out]; exact HK6.out.trans kr (fun b e hb => by have e' : b = a + 1 := e; omega), us, EA', ec', rfl, ?_⟩
                        have hRT : RT wr B s' us EA' ec' (N + 1) := ⟨by rw [← HSP.out]; exact HO6.out, by
                          rw [hel, ← HSP.out]
                          have := HE6.out
                          rw [← List.flatMap_append] at this
                          exact this, fun l hl => by rw [← HSP.out] at hl; exact Nat.le_succ_of_le (HT.out.ps l hl), by rw [hel]; omega, by rw [← HSP.out]; exact HT.out.th⟩
                        exact hRT.keeps kr (fun b e _ => ⟨_, _, e ▸ R9, by decide, by decide⟩)
                      obtain ⟨cs9, hcs9⟩ : ∃ cs9, (rtc s' us (.slice EA' s'.es.length ec')).toArray = cs9 := ⟨_, rfl⟩
                      rw [hcs9] at T9 hi' hone' hold' HX
                      clear hel hrt hcs9
                      by_cases hn9 : (k : Int) < v1
                      · have t2 : decide ((cu : Int) < 60001) = false := decide_eq_false (by omega)
                        clear hcu'
                        go_upto_region 30 with (fail)
                        have tok8 : True := trivial; have tok9 : True := trivial
                        go_wp2_with (first | (have _t := tok8; refine wpList_load_row (o := ⟨some 176, _, _, _, _, _⟩) rfl 76 (.tmp 2) rfl a rfl 76 _ _ _ T9 Tryz.underlying76 rfl hi' ?_; clear tok8 _t) | (have _t := tok9; refine wpList_store_row (o := ⟨none, .store 76 (.tmp 4) (.tmp 176), _, _, _, _⟩) rfl 76 (.tmp 4) (.tmp 176) rfl (a + 1) _ rfl rfl 76 _ R9 hi' hold' hone' ?_; clear tok9 _t))
                        exact bodyPost_ret (results_line Tryz.results33 rfl rfl (R9.row _) hi') rfl HX
                      · have t1 : decide ((k : Int) < v1) = false := decide_eq_false hn9
                        clear hcu'
                        go_upto_region 30 with (fail)
                        have tok8 : True := trivial; have tok9 : True := trivial
                        go_wp2_with (first | (have _t := tok8; refine wpList_load_row (o := ⟨some 176, _, _, _, _, _⟩) rfl 76 (.tmp 2) rfl a rfl 76 _ _ _ T9 Tryz.underlying76 rfl hi' ?_; clear tok8 _t) | (have _t := tok9; refine wpList_store_row (o := ⟨none, .store 76 (.tmp 4) (.tmp 176), _, _, _, _⟩) rfl 76 (.tmp 4) (.tmp 176) rfl (a + 1) _ rfl rfl 76 _ R9 hi' hold' hone' ?_; clear tok9 _t))
                        exact bodyPost_ret (results_line Tryz.results33 rfl rfl (R9.row _) hi') rfl HX
                | true =>
                  rw [hdn] at g26
                  have y24 := A4.cell_ (i := 24) g24
                  have y25 := A4.cell_ (i := 25) g25
                  have y26 := A4.cell_ (i := 26) g26
                  have x0 := E4.cell 0
                  have x1 := E4.cell 1
                  have za4 := A4.lt
                  have ze4 := E4.lt
                  have hq := fun W => eqE s.was ⟨v0, 0⟩ W
                  cases hwd : decide (s.was = ⟨v0, 0⟩) with
                  | true =>
                    have HE : Hid (rLine s ws = none) := HBad.out (by rw [HWO.out, if_neg (fun q => (q.2.2.2.2 rfl).2 ⟨hdn, of_decide_eq_true hwd⟩)])
                    rw [hwd] at hq
                    have hq' : ∀ W : World, (binOp .eql 61 (.agg #[.int .i64 s.was.th, .int .i64 s.was.wh]) (.agg #[.int .i64 v0, .int .i64 0])).run Tryz.prog W = .ok (.bool true) W := hq
                    obtain ⟨wt, hwt⟩ : ∃ v, s.was.th = v := ⟨_, rfl⟩
                    obtain ⟨wh, hwh⟩ : ∃ v, s.was.wh = v := ⟨_, rfl⟩
                    rw [hwt, hwh] at hq'
                    rw [hwt] at y24
                    rw [hwh] at y25
                    clear HEG0 HWO hdn hwd hq hwt hwh hr0 hv1
                    go_upto_region 23 with (fail)
                    have tok8 : True := trivial; have tok9 : True := trivial
                    go_wp2_with (first | (have _t := tok8; refine wpList_load_row (o := ⟨some 152, _, _, _, _, _⟩) rfl 76 (.tmp 2) rfl a rfl 76 _ _ _ A4 Tryz.underlying76 rfl hi ?_; clear tok8 _t) | (have _t := tok9; refine wpList_store_row (o := ⟨none, .store 76 (.tmp 4) (.tmp 152), _, _, _, _⟩) rfl 76 (.tmp 4) (.tmp 152) rfl (a + 1) _ rfl rfl 76 _ R4 hi hold hone ?_; clear tok9 _t))
                    have HX : RLineR w B N s us EA ec (rLine s ws) (.returned (.tuple #[.agg cs, .bool false])) (W4.setRow (a + 1) cs) := by
                      rw [HE.out]
                      exact ⟨Keeps.of_below ((keeps_row _ _ _).below kb4 (by have := Blk.lt R4; omega) (fun x e _ => by have e' : x = a + 1 := e; omega)), by rw [HCS.out]⟩
                    exact bodyPost_ret (results_line Tryz.results33 rfl rfl (Blk.row R4 _) hi) rfl HX
                  | false =>
                    have HEG := Lib.hid (HEG0.out (fun q => by rw [decide_eq_true q.2] at hwd; cases hwd))
                    rw [hwd] at hq
                    have hq' : ∀ W : World, (binOp .eql 61 (.agg #[.int .i64 s.was.th, .int .i64 s.was.wh]) (.agg #[.int .i64 v0, .int .i64 0])).run Tryz.prog W = .ok (.bool false) W := hq
                    obtain ⟨wt, hwt⟩ : ∃ v, s.was.th = v := ⟨_, rfl⟩
                    obtain ⟨wh, hwh⟩ : ∃ v, s.was.wh = v := ⟨_, rfl⟩
                    rw [hwt, hwh] at hq'
                    rw [hwt] at y24
                    rw [hwh] at y25
                    clear HEG0 HWO hdn hwd hq hr0 hv1
                    go_upto_region 24 with (fail)
                    clear y24 y25 y26 x0 x1 za4 ze4 hq' hwt hwh
                    obtain ⟨ln, hln⟩ : ∃ ln, s.es.length = ln := ⟨_, rfl⟩
                    obtain ⟨M, hM⟩ : ∃ M, min (v1 : Int).toNat (60001 - ln) = M := ⟨_, rfl⟩
                    obtain ⟨s', hs'⟩ : ∃ s', ({ s with done := true, was := ⟨v0, 0⟩, es := s.es ++ List.replicate M ⟨v0, 0⟩ } : St) = s' := ⟨_, rfl⟩
                    have HE : Hid (rLine s ws = some s') := by rw [Hid, HEG.out, hln, hM, hs']
                    obtain ⟨s1, hs1⟩ : ∃ s1, ({ s with done := true, was := ⟨v0, 0⟩ } : St) = s1 := ⟨_, rfl⟩
                    have hl6 : ln ≤ 60001 := hln ▸ HT.out.es
                    have hM1 : M ≤ (v1 : Int).toNat ∧ ln + M ≤ 60001 ∧ (M = (v1 : Int).toNat ∨ 60001 ≤ ln + M) := by rw [← hM]; omega
                    have y24 := A4.cell_ (i := 24) g24
                    have y25 := A4.cell_ (i := 25) g25
                    have y26 := A4.cell_ (i := 26) g26
                    have f24 := A4.frozen 24
                    have f25 := A4.frozen 25
                    have f26 := A4.frozen 26
                    have x0 := E4.cell 0
                    have x1 := E4.cell 1
                    have z4 := A4.lt
                    have z5 := E4.lt
                    go_upto_region 26 with (fail)
                    obtain ⟨V, hV, TV, RV, EV, OV, OE, kV⟩ : ∃ V, ((W4.setCell ⟨a, 26, none⟩ (.bool true)).setCell ⟨a, 24, none⟩ (.int .i64 v0)).setCell ⟨a, 25, none⟩ (.int .i64 0) = V ∧ Blk V a 76 (rtc s1 us (.slice EA ln ec)).toArray ∧ Blk V (a + 1) 76 #[.int .i64 0, .int .i64 0, .int .i64 0, .int .i64 0, .int .i64 0, .int .i64 0, .int .i64 0, .int .i64 0, .int .i64 0, .int .i64 0, .int .i64 0, .int .i64 0, .int .i64 0, .int .i64 0, .slice none 0 0, .slice none 0 0, .slice none 0 0, .slice none 0 0, .slice none 0 0, .slice none 0 0, .slice none 0 0, .slice none 0 0, .slice none 0 0, .int .i64 0, .int .i64 0, .int .i64 0, .bool false] ∧ Blk V eb 61 #[.int .i64 v0, .int .i64 0] ∧ OW V B us s.ps ∧ V.ownsRow B 61 2 (.slice EA ln ec) ln (s.es.flatMap enc_) ∧ Keeps (eblk EA ln ec) w V := by
                      have k4 := (((Keeps.refl (fun b => b = a) W4).setCell (p := ⟨a, 26, none⟩) (fun _ => rfl) (.bool true)).setCell (p := ⟨a, 24, none⟩) (fun _ => rfl) (.int .i64 v0)).setCell (p := ⟨a, 25, none⟩) (fun _ => rfl) (.int .i64 0)
                      have RT4 := HT.out.below kb4
                      refine ⟨_, rfl, ?_, k4.blk R4 (by omega), k4.blk E4 (by omega), RT4.o.keepsT k4 (fun b e _ => ⟨_, _, e ▸ A4, by decide⟩), ?_, Keeps.of_below (k4.below kb4 (by omega) (fun x e _ => by have e' : x = a := e; omega))⟩
                      · have := ((A4.set_ 26 (.bool true)).set_ 24 (.int .i64 v0)).set_ 25 (.int .i64 0)
                        rw [← HCS.out] at this
                        simp only [List.setIfInBounds_toArray] at this
                        rw [rtc_done h8, rtc_was h8, hln] at this
                        rw [← hs1]
                        exact this
                      · have := k4.own RT4.e (fun q hq e => by have e' : q = a := e; subst e'; exact own_ne_blk RT4.e A4 (by decide) hq)
                        rw [hln] at this
                        exact this
                    rw [hV]
                    have HLN := Lib.hid hln
                    have HM := Lib.hid hM
                    have HS1 := Lib.hid hs1
                    have HSP := Lib.hid hs'
                    have HRow : Hid (∀ q, (Value.slice EA ln ec).ownBlock = some q → q ≠ eb ∧ (eblk EA ln ec q ∨ w.heap.size ≤ q)) := fun q hq => ⟨fun e => by
                      have := own_lt (hln ▸ HT.out.e) q hq
                      omega, .inl hq⟩
                    have HTV := Lib.hid TV
                    have HRV := Lib.hid RV
                    have HEV := Lib.hid EV
                    have HOV := Lib.hid OV
                    have HOE := Lib.hid OE
                    have HKV := Lib.hid kV
                    have hBV : B ≤ V.heap.size := Nat.le_trans hB kV.size
                    obtain ⟨i1, E3⟩ := elem_en
                    clear hV hln hM hs1 hs' y24 y25 y26 f24 f25 f26 x0 x1 z5 A4 R4 E4 TV RV EV OV OE kV g24 g25 g26 g1
                    go_wp2_with fail
                    go_loopg [16] M (fun gk s16 wr => ∃ (k cu : Nat) (EA' : Option Addr) (ec' : Nat), k + gk = M ∧ s16 = .int .i64 k ∧ Hid (cu = ln + k) ∧ Hid (Blk wr a 76 (rtc s1 us (.slice EA' cu ec')).toArray) ∧ Hid (Blk wr (a + 1) 76 #[.int .i64 0, .int .i64 0, .int .i64 0, .int .i64 0, .int .i64 0, .int .i64 0, .int .i64 0, .int .i64 0, .int .i64 0, .int .i64 0, .int .i64 0, .int .i64 0, .int .i64 0, .int .i64 0, .slice none 0 0, .slice none 0 0, .slice none 0 0, .slice none 0 0, .slice none 0 0, .slice none 0 0, .slice none 0 0, .slice none 0 0, .slice none 0 0, .int .i64 0, .int .i64 0, .int .i64 0, .bool false]) ∧ Hid (Blk wr eb 61 #[.int .i64 v0, .int .i64 0]) ∧ Hid (OW wr B us s.ps) ∧ Hid (wr.ownsRow B 61 2 (.slice EA' cu ec') cu (s.es.flatMap enc_ ++ (List.replicate k (⟨v0, 0⟩ : En)).flatMap enc_)) ∧ Hid (∀ q, (Value.slice EA' cu ec').ownBlock = some q → q ≠ eb ∧ (eblk EA ln ec q ∨ w.heap.size ≤ q)) ∧ Hid (Keeps (eblk EA ln ec) w wr))
                    case atStart => exact ⟨0, ln, EA, ec, by omega, rfl, rfl, HTV, HRV, HEV, HOV, by simpa [Hid] using HOE.out, HRow, HKV⟩
                    case round =>
                      obtain ⟨k, cu, EA', ec', hk, rfl, hcu, HT6, HR6, HC6, HO6, HE6, HW6, HK6⟩ := hrel
                      have hcu' := hcu.out
                      have y22 : wr.cell? ⟨a, 22, none⟩ = some (.slice EA' cu ec') := HT6.out.cell_ (by rw [List.getElem?_toArray]; exact rtc_ent h8)
                      have zr := HT6.out.lt
                      by_cases hlt : k < M
                      · obtain ⟨g', rfl⟩ : ∃ g', gk = g' + 1 := ⟨gk - 1, by omega⟩
                        have t1 : (k : Int) < v1 := by omega
                        have t2 : (cu : Int) < 60001 := by omega
                        have ck : IntKind.i64.wrap ((k : Int) + 1) = (k : Int) + 1 := IntWalk.i64_in _ (by omega)
                        obtain ⟨cs6, hcs6⟩ : ∃ cs6, (rtc s1 us (.slice EA' cu ec')).toArray = cs6 := ⟨_, rfl⟩
                        have T6 := HT6.out
                        rw [hcs6] at T6
                        have hck : cs6[22]? = some (.slice EA' cu ec') := by rw [← hcs6, List.getElem?_toArray]; exact rtc_ent h8
                        have HCS6 := Lib.hid hcs6
                        have C6 := HC6.out
                        have x0 := C6.cell 0
                        have x1 := C6.cell 1
                        have own5 := HE6.out
                        have hebw := C6.lt
                        have hBW : B ≤ wr.heap.size := Nat.le_trans hB HK6.out.size
                        have hwW := HK6.out.size
                        clear hcs6 hcu'
                        go_upto_region 29 with (fail)
                        have tok11 : True := trivial
                        go_upto_region 28 with (have _t := tok11; at_builtin; refine wpList_app (ys := [.int .i64 v0, .int .i64 0]) (m := 1) E3 rfl (.tmp 170) (.tmp 172) rfl B rfl (own5.alloc _) rfl rfl (Rd.new _ _ _ rfl) (by simp [Value.oneCell']) (by unfold maxLen; omega) (by omega) (by simp; omega) ?_; intro A8 c8 w8 own8 hg8 h38; have G8 := (T6.alloc (.cells #[.int .i64 v0, .int .i64 0] 61)).grown hg8 (fun q1 => own_ne_blk own5 T6 (by decide) q1.symm); have D8 := (C6.alloc (.cells #[.int .i64 v0, .int .i64 0] 61)).grown hg8 (fun q1 => (HW6.out eb q1.symm).1 rfl); have Q8 := (HR6.out.alloc (.cells #[.int .i64 v0, .int .i64 0] 61)).grown hg8 (fun q1 => own_ne_blk own5 HR6.out (by decide) q1.symm); have f8 := G8.frozen 22; have v8 := (G8.cell 22).trans hck; have z8 := G8.lt; clear tok11 _t)
                        obtain ⟨U, hU, H1, H1b, H2, H3, H4, H5, H6⟩ : ∃ U, w8.setCell ⟨a, 22, none⟩ (.slice A8 (cu + 1) c8) = U ∧ Hid (Blk U a 76 (rtc s1 us (.slice A8 (cu + 1) c8)).toArray) ∧ Hid (Blk U (a + 1) 76 #[.int .i64 0, .int .i64 0, .int .i64 0, .int .i64 0, .int .i64 0, .int .i64 0, .int .i64 0, .int .i64 0, .int .i64 0, .int .i64 0, .int .i64 0, .int .i64 0, .int .i64 0, .int .i64 0, .slice none 0 0, .slice none 0 0, .slice none 0 0, .slice none 0 0, .slice none 0 0, .slice none 0 0, .slice none 0 0, .slice none 0 0, .slice none 0 0, .int .i64 0, .int .i64 0, .int .i64 0, .bool false]) ∧ Hid (Blk U eb 61 #[.int .i64 v0, .int .i64 0]) ∧ Hid (OW U B us s.ps) ∧ Hid (U.ownsRow B 61 2 (.slice A8 (cu + 1) c8) (cu + 1) (s.es.flatMap enc_ ++ (List.replicate (k + 1) (⟨v0, 0⟩ : En)).flatMap enc_)) ∧ Hid (∀ q, (Value.slice A8 (cu + 1) c8).ownBlock = some q → q ≠ eb ∧ (eblk EA ln ec q ∨ w.heap.size ≤ q)) ∧ Hid (Keeps (eblk EA ln ec) w U) := by
                          have kg : Keeps (fun b => (Value.slice EA' cu ec').ownBlock = some b) wr w8 := ((Keeps.refl (fun b => (Value.slice EA' cu ec').ownBlock = some b) wr).alloc (.cells #[.int .i64 v0, .int .i64 0] 61)).grown hg8 (fun k h _ => h)
                          have k4 := (Keeps.refl (fun b => b = a) w8).setCell (p := ⟨a, 22, none⟩) (fun _ => rfl) (.slice A8 (cu + 1) c8)
                          have hgt : ∀ b, (Value.slice EA' cu ec').ownBlock = some b → b < wr.heap.size → ∃ cs, Blk wr b 61 cs := fun b e _ => own_blk own5 e
                          have O8 := (HO6.out.keepsT kg (fun b e hb => by obtain ⟨cs, q⟩ := hgt b e hb; exact ⟨_, cs, q, by decide⟩)).keepsT k4 (fun b e _ => ⟨_, _, e ▸ G8, by decide⟩)
                          have T9 := G8.set_ 22 (.slice A8 (cu + 1) c8)
                          rw [← HCS6.out, List.setIfInBounds_toArray, rtc_sete h8 s1.es] at T9
                          refine ⟨_, rfl, T9, k4.blk Q8 (by omega), k4.blk D8 (by omega), O8, ?_, ?_, ?_⟩
                          · have := k4.own own8 (fun q hq e => by have e' : q = a := e; rw [e'] at hq; exact own_ne_blk own8 G8 (by decide) hq)
                            rw [List.append_assoc] at this
                            have e1 : (List.replicate (k + 1) (⟨v0, 0⟩ : En)).flatMap enc_ = (List.replicate k (⟨v0, 0⟩ : En)).flatMap enc_ ++ [.int .i64 v0, .int .i64 0] := by
                              rw [List.replicate_succ', List.flatMap_append]
                              rfl
                            rw [Hid, e1]
                            exact this
                          · intro q hq
                            rcases h38 with e | e
                            · exact HW6.out q (e ▸ hq)
                            · rw [e] at hq
                              injection hq with hq
                              have : (wr.alloc (.cells #[.int .i64 v0, .int .i64 0] 61)).heap.size = wr.heap.size + 1 := by simp
                              exact ⟨by omega, .inr (by omega)⟩
                          · exact (HK6.out.trans kg (fun b e hb => (HW6.out b e).2.elim id (fun q => by omega))).trans k4 (fun b e hb => by have e' : b = a := e; omega)
                        rw [hU]
                        clear hU own8 hg8 h38 G8 D8 Q8 f8 v8 z8 T6 C6 own5 hck x0 x1
                        go_wp2_with fail
                        go_roundg g'
                        case measure => omega
                        case rel => exact ⟨k + 1, cu + 1, A8, c8, by omega, by go_num, by have := hcu.out; show _ = _; omega, H1, H1b, H2, H3, H4, H5, H6⟩
                      · obtain rfl : k = M := by omega
                        obtain rfl : gk = 0 := by omega
                        have hel : s'.es.length = cu := by rw [← HSP.out]; show (s.es ++ List.replicate k _).length = cu; rw [List.length_append, List.length_replicate, HLN.out]; exact hcu'.symm
                        have hrt : rtc s1 us (.slice EA' cu ec') = rtc s' us (.slice EA' s'.es.length ec') := by rw [hel, ← HSP.out, ← HS1.out]; rfl
                        have T9 : Blk wr a 76 (rtc s' us (.slice EA' s'.es.length ec')).toArray := by rw [← hrt]; exact HT6.out
                        have hi' := info_rtc (s := s') (us := us) (ev := .slice EA' s'.es.length ec') h8
                        have hone' := rtc_one (s := s') HO6.out.pin EA' s'.es.length ec'
                        have hold' : (#[.int .i64 0, .int .i64 0, .int .i64 0, .int .i64 0, .int .i64 0, .int .i64 0, .int .i64 0, .int .i64 0, .int .i64 0, .int .i64 0, .int .i64 0, .int .i64 0, .int .i64 0, .int .i64 0, .slice none 0 0, .slice none 0 0, .slice none 0 0, .slice none 0 0, .slice none 0 0, .slice none 0 0, .slice none 0 0, .slice none 0 0, .slice none 0 0, .int .i64 0, .int .i64 0, .int .i64 0, .bool false] : Array Value).size = (rtc s' us (.slice EA' s'.es.length ec')).toArray.size := by rw [List.size_toArray, List.size_toArray, rtc_len h8]; rfl
                        have R9 := HR6.out
                        have HX : RLineR w B N s us EA ec (rLine s ws) (.returned (.tuple #[.agg (rtc s' us (.slice EA' s'.es.length ec')).toArray, .bool true])) (wr.setRow (a + 1) (rtc s' us (.slice EA' s'.es.length ec')).toArray) := by
                          have kr := keeps_row wr (a + 1) (rtc s' us (.slice EA' s'.es.length ec')).toArray
                          rw [HE.out]
                          refine ⟨by rw [HLN.out]; exact HK6.out.trans kr (fun b e hb => by have e' : b = a + 1 := e; omega), us, EA', ec', rfl, ?_⟩
                          have hRT : RT wr B s' us EA' ec' (N + 1) := ⟨by rw [← HSP.out]; exact HO6.out, by
                            rw [hel, ← HSP.out]
                            have := HE6.out
                            rw [← List.flatMap_append] at this
                            exact this, fun l hl => by rw [← HSP.out] at hl; exact Nat.le_succ_of_le (HT.out.ps l hl), by rw [hel]; omega, by rw [← HSP.out]; exact HT.out.th⟩
                          exact hRT.keeps kr (fun b e _ => ⟨_, _, e ▸ R9, by decide, by decide⟩)
                        obtain ⟨cs9, hcs9⟩ : ∃ cs9, (rtc s' us (.slice EA' s'.es.length ec')).toArray = cs9 := ⟨_, rfl⟩
                        rw [hcs9] at T9 hi' hone' hold' HX
                        clear hel hrt hcs9
                        by_cases hn9 : (k : Int) < v1
                        · have t2 : decide ((cu : Int) < 60001) = false := decide_eq_false (by omega)
                          clear hcu'
                          go_upto_region 30 with (fail)
                          have tok8 : True := trivial; have tok9 : True := trivial
                          go_wp2_with (first | (have _t := tok8; refine wpList_load_row (o := ⟨some 176, _, _, _, _, _⟩) rfl 76 (.tmp 2) rfl a rfl 76 _ _ _ T9 Tryz.underlying76 rfl hi' ?_; clear tok8 _t) | (have _t := tok9; refine wpList_store_row (o := ⟨none, .store 76 (.tmp 4) (.tmp 176), _, _, _, _⟩) rfl 76 (.tmp 4) (.tmp 176) rfl (a + 1) _ rfl rfl 76 _ R9 hi' hold' hone' ?_; clear tok9 _t))
                          exact bodyPost_ret (results_line Tryz.results33 rfl rfl (R9.row _) hi') rfl HX
                        · have t1 : decide ((k : Int) < v1) = false := decide_eq_false hn9
                          clear hcu'
                          go_upto_region 30 with (fail)
                          have tok8 : True := trivial; have tok9 : True := trivial
                          go_wp2_with (first | (have _t := tok8; refine wpList_load_row (o := ⟨some 176, _, _, _, _, _⟩) rfl 76 (.tmp 2) rfl a rfl 76 _ _ _ T9 Tryz.underlying76 rfl hi' ?_; clear tok8 _t) | (have _t := tok9; refine wpList_store_row (o := ⟨none, .store 76 (.tmp 4) (.tmp 176), _, _, _, _⟩) rfl 76 (.tmp 4) (.tmp 176) rfl (a + 1) _ rfl rfl 76 _ R9 hi' hold' hone' ?_; clear tok9 _t))
                          exact bodyPost_ret (results_line Tryz.results33 rfl rfl (R9.row _) hi') rfl HX
              · have HE : Hid (rLine s ws = none) := HBad.out (by rw [HWO.out, if_neg (fun q => hl2 (q.1 rfl))])
                have tl : ((NL : Int) != 2) = true := by rw [bne_iff_ne]; omega
                clear HWO
                go_quiet (fail)
                go_upto_region 17 with (fail)
                have tok8 : True := trivial; have tok9 : True := trivial
                go_wp2_with (first | (have _t := tok8; refine wpList_load_row (o := ⟨some 129, _, _, _, _, _⟩) rfl 76 (.tmp 2) rfl a rfl 76 _ _ _ (A3.drewN nq) Tryz.underlying76 rfl hi ?_; clear tok8 _t) | (have _t := tok9; refine wpList_store_row (o := ⟨none, .store 76 (.tmp 4) (.tmp 129), _, _, _, _⟩) rfl 76 (.tmp 4) (.tmp 129) rfl (a + 1) _ rfl rfl 76 _ (R3.out.drewN nq) hi hold hone ?_; clear tok9 _t))
                have HX : RLineR w B N s us EA ec (rLine s ws) (.returned (.tuple #[.agg cs, .bool false])) ((wr.drewN nq).setRow (a + 1) cs) := by
                  rw [HE.out]
                  exact ⟨Keeps.of_below ((keeps_row _ _ _).below (below_drewN kb3 nq) (by have := Blk.lt (R3.out.drewN nq); omega) (fun x e _ => by have e' : x = a + 1 := e; omega)), by rw [HCS.out]⟩
                exact bodyPost_ret (results_line Tryz.results33 rfl rfl (Blk.row (R3.out.drewN nq) _) hi) rfl HX
            · have tj0 : decide ((j : Int) < 0) = false := decide_eq_false (by omega)
              have tj1 : ((j : Int) == 0) = false := by rw [beq_eq_false_iff_ne]; omega
              have tj2 : (0 : Int) < (j : Int) := by omega
              by_cases hl1 : NL = 1
              · subst hl1
                obtain ⟨g, hAI, n0⟩ := HCI.out 0 _ (getD_ns (ns := ns) (k := 0) (by rw [HNL.out]; omega))
                subst hAI
                obtain ⟨v0, hv0⟩ : ∃ v, ns.getD 0 0 = v := ⟨_, rfl⟩
                rw [hv0] at n0 HWO
                have HTH : Hid (s.c.th = th) := HTHs
                have zn0 := block_lt_of_cell n0
                by_cases h0 : v0 < 0
                · have HE : Hid (rLine s ws = none) := HBad.out (by rw [HWO.out, if_neg (fun q => by have := q.2.2.1; omega)])
                  clear HWO
                  go_quiet (fail)
                  go_upto_region 17 with (fail)
                  have tok8 : True := trivial; have tok9 : True := trivial
                  go_wp2_with (first | (have _t := tok8; refine wpList_load_row (o := ⟨some 129, _, _, _, _, _⟩) rfl 76 (.tmp 2) rfl a rfl 76 _ _ _ (A3.drewN nq) Tryz.underlying76 rfl hi ?_; clear tok8 _t) | (have _t := tok9; refine wpList_store_row (o := ⟨none, .store 76 (.tmp 4) (.tmp 129), _, _, _, _⟩) rfl 76 (.tmp 4) (.tmp 129) rfl (a + 1) _ rfl rfl 76 _ (R3.out.drewN nq) hi hold hone ?_; clear tok9 _t))
                  have HX : RLineR w B N s us EA ec (rLine s ws) (.returned (.tuple #[.agg cs, .bool false])) ((wr.drewN nq).setRow (a + 1) cs) := by
                    rw [HE.out]
                    exact ⟨Keeps.of_below ((keeps_row _ _ _).below (below_drewN kb3 nq) (by have := Blk.lt (R3.out.drewN nq); omega) (fun x e _ => by have e' : x = a + 1 := e; omega)), by rw [HCS.out]⟩
                  exact bodyPost_ret (results_line Tryz.results33 rfl rfl (Blk.row (R3.out.drewN nq) _) hi) rfl HX
                have t0 : decide (v0 < 0) = false := decide_eq_false h0
                by_cases h1' : th ≤ v0
                · have HE : Hid (rLine s ws = none) := HBad.out (by rw [HWO.out, if_neg (fun q => by have := q.2.2.2.1; have := HTH.out; omega)])
                  clear HWO
                  go_quiet (fail)
                  go_upto_region 17 with (fail)
                  have tok8 : True := trivial; have tok9 : True := trivial
                  go_wp2_with (first | (have _t := tok8; refine wpList_load_row (o := ⟨some 129, _, _, _, _, _⟩) rfl 76 (.tmp 2) rfl a rfl 76 _ _ _ (A3.drewN nq) Tryz.underlying76 rfl hi ?_; clear tok8 _t) | (have _t := tok9; refine wpList_store_row (o := ⟨none, .store 76 (.tmp 4) (.tmp 129), _, _, _, _⟩) rfl 76 (.tmp 4) (.tmp 129) rfl (a + 1) _ rfl rfl 76 _ (R3.out.drewN nq) hi hold hone ?_; clear tok9 _t))
                  have HX : RLineR w B N s us EA ec (rLine s ws) (.returned (.tuple #[.agg cs, .bool false])) ((wr.drewN nq).setRow (a + 1) cs) := by
                    rw [HE.out]
                    exact ⟨Keeps.of_below ((keeps_row _ _ _).below (below_drewN kb3 nq) (by have := Blk.lt (R3.out.drewN nq); omega) (fun x e _ => by have e' : x = a + 1 := e; omega)), by rw [HCS.out]⟩
                  exact bodyPost_ret (results_line Tryz.results33 rfl rfl (Blk.row (R3.out.drewN nq) _) hi) rfl HX
                have t1' : decide (th ≤ v0) = false := decide_eq_false h1'
                go_quiet (fail)
                obtain ⟨W3, hW3, A3', R3', n0', kb3'⟩ : ∃ W3, wr.drewN nq = W3 ∧ Blk W3 a 76 cs ∧ Blk W3 (a + 1) 76 #[.int .i64 0, .int .i64 0, .int .i64 0, .int .i64 0, .int .i64 0, .int .i64 0, .int .i64 0, .int .i64 0, .int .i64 0, .int .i64 0, .int .i64 0, .int .i64 0, .int .i64 0, .int .i64 0, .slice none 0 0, .slice none 0 0, .slice none 0 0, .slice none 0 0, .slice none 0 0, .slice none 0 0, .slice none 0 0, .slice none 0 0, .slice none 0 0, .int .i64 0, .int .i64 0, .int .i64 0, .bool false] ∧ W3.cell? ⟨g, 0, none⟩ = some (.int .i64 v0) ∧ Below w.heap.size w W3 := ⟨_, rfl, A3.drewN nq, R3.out.drewN nq, n0, below_drewN kb3 nq⟩
                rw [hW3]
                clear hW3
                have zn0' := block_lt_of_cell n0'
                go_upto_region 19 with (fail)
                obtain ⟨eb, heb⟩ : ∃ eb, W3.heap.size = eb := ⟨_, rfl⟩
                obtain ⟨W4, hW4, A4, R4, E4, kb4⟩ : ∃ W4, W3.alloc (.cells #[.int .i64 v0, .int .i64 (j : Int)] 61) = W4 ∧ Blk W4 a 76 cs ∧ Blk W4 (a + 1) 76 #[.int .i64 0, .int .i64 0, .int .i64 0, .int .i64 0, .int .i64 0, .int .i64 0, .int .i64 0, .int .i64 0, .int .i64 0, .int .i64 0, .int .i64 0, .int .i64 0, .int .i64 0, .int .i64 0, .slice none 0 0, .slice none 0 0, .slice none 0 0, .slice none 0 0, .slice none 0 0, .slice none 0 0, .slice none 0 0, .slice none 0 0, .slice none 0 0, .int .i64 0, .int .i64 0, .int .i64 0, .bool false] ∧ Blk W4 eb 61 #[.int .i64 v0, .int .i64 (j : Int)] ∧ Below w.heap.size w W4 := ⟨_, rfl, A3'.alloc _, R3'.alloc _, heb ▸ Blk.new _ _ _, bnew kb3' _⟩
                rw [hW4]
                try rw [heb]
                have hae : a + 1 < eb := by have := R3'.lt; omega
                have hwe : w.heap.size ≤ eb := by omega
                clear hW4 heb n0 n0' y1 A3 za zn0 zn0'
                have HEG : Hid (rLine s ws = some { s with done := true, was := ⟨v0, (j : Int)⟩, es := s.es ++ List.replicate (min (1 : Int).toNat (60001 - s.es.length)) ⟨v0, (j : Int)⟩ }) := by
                  rw [Hid, HE0.out, HWO.out, if_pos ⟨fun q => by omega, fun _ => rfl, by omega, by have := HTH.out; omega, fun q => by omega⟩, rMany, if_neg (by omega)]
                clear HWO
                go_upto_region 24 with (fail)
                obtain ⟨ln, hln⟩ : ∃ ln, s.es.length = ln := ⟨_, rfl⟩
                obtain ⟨M, hM⟩ : ∃ M, min (1 : Int).toNat (60001 - ln) = M := ⟨_, rfl⟩
                obtain ⟨s', hs'⟩ : ∃ s', ({ s with done := true, was := ⟨v0, (j : Int)⟩, es := s.es ++ List.replicate M ⟨v0, (j : Int)⟩ } : St) = s' := ⟨_, rfl⟩
                have HE : Hid (rLine s ws = some s') := by rw [Hid, HEG.out, hln, hM, hs']
                obtain ⟨s1, hs1⟩ : ∃ s1, ({ s with done := true, was := ⟨v0, (j : Int)⟩ } : St) = s1 := ⟨_, rfl⟩
                have hl6 : ln ≤ 60001 := hln ▸ HT.out.es
                have hM1 : M ≤ (1 : Int).toNat ∧ ln + M ≤ 60001 ∧ (M = (1 : Int).toNat ∨ 60001 ≤ ln + M) := by rw [← hM]; omega
                have y24 := A4.cell_ (i := 24) g24
                have y25 := A4.cell_ (i := 25) g25
                have y26 := A4.cell_ (i := 26) g26
                have f24 := A4.frozen 24
                have f25 := A4.frozen 25
                have f26 := A4.frozen 26
                have x0 := E4.cell 0
                have x1 := E4.cell 1
                have z4 := A4.lt
                have z5 := E4.lt
                go_upto_region 26 with (fail)
                obtain ⟨V, hV, TV, RV, EV, OV, OE, kV⟩ : ∃ V, ((W4.setCell ⟨a, 26, none⟩ (.bool true)).setCell ⟨a, 24, none⟩ (.int .i64 v0)).setCell ⟨a, 25, none⟩ (.int .i64 (j : Int)) = V ∧ Blk V a 76 (rtc s1 us (.slice EA ln ec)).toArray ∧ Blk V (a + 1) 76 #[.int .i64 0, .int .i64 0, .int .i64 0, .int .i64 0, .int .i64 0, .int .i64 0, .int .i64 0, .int .i64 0, .int .i64 0, .int .i64 0, .int .i64 0, .int .i64 0, .int .i64 0, .int .i64 0, .slice none 0 0, .slice none 0 0, .slice none 0 0, .slice none 0 0, .slice none 0 0, .slice none 0 0, .slice none 0 0, .slice none 0 0, .slice none 0 0, .int .i64 0, .int .i64 0, .int .i64 0, .bool false] ∧ Blk V eb 61 #[.int .i64 v0, .int .i64 (j : Int)] ∧ OW V B us s.ps ∧ V.ownsRow B 61 2 (.slice EA ln ec) ln (s.es.flatMap enc_) ∧ Keeps (eblk EA ln ec) w V := by
                  have k4 := (((Keeps.refl (fun b => b = a) W4).setCell (p := ⟨a, 26, none⟩) (fun _ => rfl) (.bool true)).setCell (p := ⟨a, 24, none⟩) (fun _ => rfl) (.int .i64 v0)).setCell (p := ⟨a, 25, none⟩) (fun _ => rfl) (.int .i64 (j : Int))
                  have RT4 := HT.out.below kb4
                  refine ⟨_, rfl, ?_, k4.blk R4 (by omega), k4.blk E4 (by omega), RT4.o.keepsT k4 (fun b e _ => ⟨_, _, e ▸ A4, by decide⟩), ?_, Keeps.of_below (k4.below kb4 (by omega) (fun x e _ => by have e' : x = a := e; omega))⟩
                  · have := ((A4.set_ 26 (.bool true)).set_ 24 (.int .i64 v0)).set_ 25 (.int .i64 (j : Int))
                    rw [← HCS.out] at this
                    simp only [List.setIfInBounds_toArray] at this
                    rw [rtc_done h8, rtc_was h8, hln] at this
                    rw [← hs1]
                    exact this
                  · have := k4.own RT4.e (fun q hq e => by have e' : q = a := e; subst e'; exact own_ne_blk RT4.e A4 (by decide) hq)
                    rw [hln] at this
                    exact this
                rw [hV]
                have HLN := Lib.hid hln
                have HM := Lib.hid hM
                have HS1 := Lib.hid hs1
                have HSP := Lib.hid hs'
                have HRow : Hid (∀ q, (Value.slice EA ln ec).ownBlock = some q → q ≠ eb ∧ (eblk EA ln ec q ∨ w.heap.size ≤ q)) := fun q hq => ⟨fun e => by
                  have := own_lt (hln ▸ HT.out.e) q hq
                  omega, .inl hq⟩
                have HTV := Lib.hid TV
                have HRV := Lib.hid RV
                have HEV := Lib.hid EV
                have HOV := Lib.hid OV
                have HOE := Lib.hid OE
                have HKV := Lib.hid kV
                have hBV : B ≤ V.heap.size := Nat.le_trans hB kV.size
                obtain ⟨i1, E3⟩ := elem_en
                clear hV hln hM hs1 hs' y24 y25 y26 f24 f25 f26 x0 x1 z5 A4 R4 E4 TV RV EV OV OE kV g24 g25 g26 g1
                go_wp2_with fail
                go_loopg [16] M (fun gk s16 wr => ∃ (k cu : Nat) (EA' : Option Addr) (ec' : Nat), k + gk = M ∧ s16 = .int .i64 k ∧ Hid (cu = ln + k) ∧ Hid (Blk wr a 76 (rtc s1 us (.slice EA' cu ec')).toArray) ∧ Hid (Blk wr (a + 1) 76 #[.int .i64 0, .int .i64 0, .int .i64 0, .int .i64 0, .int .i64 0, .int .i64 0, .int .i64 0, .int .i64 0, .int .i64 0, .int .i64 0, .int .i64 0, .int .i64 0, .int .i64 0, .int .i64 0, .slice none 0 0, .slice none 0 0, .slice none 0 0, .slice none 0 0, .slice none 0 0, .slice none 0 0, .slice none 0 0, .slice none 0 0, .slice none 0 0, .int .i64 0, .int .i64 0, .int .i64 0, .bool false]) ∧ Hid (Blk wr eb 61 #[.int .i64 v0, .int .i64 (j : Int)]) ∧ Hid (OW wr B us s.ps) ∧ Hid (wr.ownsRow B 61 2 (.slice EA' cu ec') cu (s.es.flatMap enc_ ++ (List.replicate k (⟨v0, (j : Int)⟩ : En)).flatMap enc_)) ∧ Hid (∀ q, (Value.slice EA' cu ec').ownBlock = some q → q ≠ eb ∧ (eblk EA ln ec q ∨ w.heap.size ≤ q)) ∧ Hid (Keeps (eblk EA ln ec) w wr))
                case atStart => exact ⟨0, ln, EA, ec, by omega, rfl, rfl, HTV, HRV, HEV, HOV, by simpa [Hid] using HOE.out, HRow, HKV⟩
                case round =>
                  obtain ⟨k, cu, EA', ec', hk, rfl, hcu, HT6, HR6, HC6, HO6, HE6, HW6, HK6⟩ := hrel
                  have hcu' := hcu.out
                  have y22 : wr.cell? ⟨a, 22, none⟩ = some (.slice EA' cu ec') := HT6.out.cell_ (by rw [List.getElem?_toArray]; exact rtc_ent h8)
                  have zr := HT6.out.lt
                  by_cases hlt : k < M
                  · obtain ⟨g', rfl⟩ : ∃ g', gk = g' + 1 := ⟨gk - 1, by omega⟩
                    have t1 : (k : Int) < 1 := by omega
                    have t2 : (cu : Int) < 60001 := by omega
                    have ck : IntKind.i64.wrap ((k : Int) + 1) = (k : Int) + 1 := IntWalk.i64_in _ (by omega)
                    obtain ⟨cs6, hcs6⟩ : ∃ cs6, (rtc s1 us (.slice EA' cu ec')).toArray = cs6 := ⟨_, rfl⟩
                    have T6 := HT6.out
                    rw [hcs6] at T6
                    have hck : cs6[22]? = some (.slice EA' cu ec') := by rw [← hcs6, List.getElem?_toArray]; exact rtc_ent h8
                    have HCS6 := Lib.hid hcs6
                    have C6 := HC6.out
                    have x0 := C6.cell 0
                    have x1 := C6.cell 1
                    have own5 := HE6.out
                    have hebw := C6.lt
                    have hBW : B ≤ wr.heap.size := Nat.le_trans hB HK6.out.size
                    have hwW := HK6.out.size
                    clear hcs6 hcu'
                    go_upto_region 29 with (fail)
                    have tok11 : True := trivial
                    go_upto_region 28 with (have _t := tok11; at_builtin; refine wpList_app (ys := [.int .i64 v0, .int .i64 (j : Int)]) (m := 1) E3 rfl (.tmp 170) (.tmp 172) rfl B rfl (own5.alloc _) rfl rfl (Rd.new _ _ _ rfl) (by simp [Value.oneCell']) (by unfold maxLen; omega) (by omega) (by simp; omega) ?_; intro A8 c8 w8 own8 hg8 h38; have G8 := (T6.alloc (.cells #[.int .i64 v0, .int .i64 (j : Int)] 61)).grown hg8 (fun q1 => own_ne_blk own5 T6 (by decide) q1.symm); have D8 := (C6.alloc (.cells #[.int .i64 v0, .int .i64 (j : Int)] 61)).grown hg8 (fun q1 => (HW6.out eb q1.symm).1 rfl); have Q8 := (HR6.out.alloc (.cells #[.int .i64 v0, .int .i64 (j : Int)] 61)).grown hg8 (fun q1 => own_ne_blk own5 HR6.out (by decide) q1.symm); have f8 := G8.frozen 22; have v8 := (G8.cell 22).trans hck; have z8 := G8.lt; clear tok11 _t)
                    obtain ⟨U, hU, H1, H1b, H2, H3, H4, H5, H6⟩ : ∃ U, w8.setCell ⟨a, 22, none⟩ (.slice A8 (cu + 1) c8) = U ∧ Hid (Blk U a 76 (rtc s1 us (.slice A8 (cu + 1) c8)).toArray) ∧ Hid (Blk U (a + 1) 76 #[.int .i64 0, .int .i64 0, .int .i64 0, .int .i64 0, .int .i64 0, .int .i64 0, .int .i64 0, .int .i64 0, .int .i64 0, .int .i64 0, .int .i64 0, .int .i64 0, .int .i64 0, .int .i64 0, .slice none 0 0, .slice none 0 0, .slice none 0 0, .slice none 0 0, .slice none 0 0, .slice none 0 0, .slice none 0 0, .slice none 0 0, .slice none 0 0, .int .i64 0, .int .i64 0, .int .i64 0, .bool false]) ∧ Hid (Blk U eb 61 #[.int .i64 v0, .int .i64 (j : Int)]) ∧ Hid (OW U B us s.ps) ∧ Hid (U.ownsRow B 61 2 (.slice A8 (cu + 1) c8) (cu + 1) (s.es.flatMap enc_ ++ (List.replicate (k + 1) (⟨v0, (j : Int)⟩ : En)).flatMap enc_)) ∧ Hid (∀ q, (Value.slice A8 (cu + 1) c8).ownBlock = some q → q ≠ eb ∧ (eblk EA ln ec q ∨ w.heap.size ≤ q)) ∧ Hid (Keeps (eblk EA ln ec) w U) := by
                      have kg : Keeps (fun b => (Value.slice EA' cu ec').ownBlock = some b) wr w8 := ((Keeps.refl (fun b => (Value.slice EA' cu ec').ownBlock = some b) wr).alloc (.cells #[.int .i64 v0, .int .i64 (j : Int)] 61)).grown hg8 (fun k h _ => h)
                      have k4 := (Keeps.refl (fun b => b = a) w8).setCell (p := ⟨a, 22, none⟩) (fun _ => rfl) (.slice A8 (cu + 1) c8)
                      have hgt : ∀ b, (Value.slice EA' cu ec').ownBlock = some b → b < wr.heap.size → ∃ cs, Blk wr b 61 cs := fun b e _ => own_blk own5 e
                      have O8 := (HO6.out.keepsT kg (fun b e hb => by obtain ⟨cs, q⟩ := hgt b e hb; exact ⟨_, cs, q, by decide⟩)).keepsT k4 (fun b e _ => ⟨_, _, e ▸ G8, by decide⟩)
                      have T9 := G8.set_ 22 (.slice A8 (cu + 1) c8)
                      rw [← HCS6.out, List.setIfInBounds_toArray, rtc_sete h8 s1.es] at T9
                      refine ⟨_, rfl, T9, k4.blk Q8 (by omega), k4.blk D8 (by omega), O8, ?_, ?_, ?_⟩
                      · have := k4.own own8 (fun q hq e => by have e' : q = a := e; rw [e'] at hq; exact own_ne_blk own8 G8 (by decide) hq)
                        rw [List.append_assoc] at this
                        have e1 : (List.replicate (k + 1) (⟨v0, (j : Int)⟩ : En)).flatMap enc_ = (List.replicate k (⟨v0, (j : Int)⟩ : En)).flatMap enc_ ++ [.int .i64 v0, .int .i64 (j : Int)] := by
                          rw [List.replicate_succ', List.flatMap_append]
                          rfl
                        rw [Hid, e1]
                        exact this
                      · intro q hq
                        rcases h38 with e | e
                        · exact HW6.out q (e ▸ hq)
                        · rw [e] at hq
                          injection hq with hq
                          have : (wr.alloc (.cells #[.int .i64 v0, .int .i64 (j : Int)] 61)).heap.size = wr.heap.size + 1 := by simp
                          exact ⟨by omega, .inr (by omega)⟩
                      · exact (HK6.out.trans kg (fun b e hb => (HW6.out b e).2.elim id (fun q => by omega))).trans k4 (fun b e hb => by have e' : b = a := e; omega)
                    rw [hU]
                    clear hU own8 hg8 h38 G8 D8 Q8 f8 v8 z8 T6 C6 own5 hck x0 x1
                    go_wp2_with fail
                    go_roundg g'
                    case measure => omega
                    case rel => exact ⟨k + 1, cu + 1, A8, c8, by omega, by go_num, by have := hcu.out; show _ = _; omega, H1, H1b, H2, H3, H4, H5, H6⟩
                  · obtain rfl : k = M := by omega
                    obtain rfl : gk = 0 := by omega
                    have hel : s'.es.length = cu := by rw [← HSP.out]; show (s.es ++ List.replicate k _).length = cu; rw [List.length_append, List.length_replicate, HLN.out]; exact hcu'.symm
                    have hrt : rtc s1 us (.slice EA' cu ec') = rtc s' us (.slice EA' s'.es.length ec') := by rw [hel, ← HSP.out, ← HS1.out]; rfl
                    have T9 : Blk wr a 76 (rtc s' us (.slice EA' s'.es.length ec')).toArray := by rw [← hrt]; exact HT6.out
                    have hi' := info_rtc (s := s') (us := us) (ev := .slice EA' s'.es.length ec') h8
                    have hone' := rtc_one (s := s') HO6.out.pin EA' s'.es.length ec'
                    have hold' : (#[.int .i64 0, .int .i64 0, .int .i64 0, .int .i64 0, .int .i64 0, .int .i64 0, .int .i64 0, .int .i64 0, .int .i64 0, .int .i64 0, .int .i64 0, .int .i64 0, .int .i64 0, .int .i64 0, .slice none 0 0, .slice none 0 0, .slice none 0 0, .slice none 0 0, .slice none 0 0, .slice none 0 0, .slice none 0 0, .slice none 0 0, .slice none 0 0, .int .i64 0, .int .i64 0, .int .i64 0, .bool false] : Array Value).size = (rtc s' us (.slice EA' s'.es.length ec')).toArray.size := by rw [List.size_toArray, List.size_toArray, rtc_len h8]; rfl
                    have R9 := HR6.out
                    have HX : RLineR w B N s us EA ec (rLine s ws) (.returned (.tuple #[.agg (rtc s' us (.slice EA' s'.es.length ec')).toArray, .bool true])) (wr.setRow (a + 1) (rtc s' us (.slice EA' s'.es.length ec')).toArray) := by
                      have kr := keeps_row wr (a + 1) (rtc s' us (.slice EA' s'.es.length ec')).toArray
                      rw [HE.out]
                      refine ⟨by rw [HLN.out]; exact HK6.out.trans kr (fun b e hb => by have e' : b = a + 1 := e; omega), us, EA', ec', rfl, ?_⟩
                      have hRT : RT wr B s' us EA' ec' (N + 1) := ⟨by rw [← HSP.out]; exact HO6.out, by
                        rw [hel, ← HSP.out]
                        have := HE6.out
                        rw [← List.flatMap_append] at this
                        exact this, fun l hl => by rw [← HSP.out] at hl; exact Nat.le_succ_of_le (HT.out.ps l hl), by rw [hel]; omega, by rw [← HSP.out]; exact HT.out.th⟩
                      exact hRT.keeps kr (fun b e _ => ⟨_, _, e ▸ R9, by decide, by decide⟩)
                    obtain ⟨cs9, hcs9⟩ : ∃ cs9, (rtc s' us (.slice EA' s'.es.length ec')).toArray = cs9 := ⟨_, rfl⟩
                    rw [hcs9] at T9 hi' hone' hold' HX
                    clear hel hrt hcs9
                    by_cases hn9 : (k : Int) < 1
                    · have t2 : decide ((cu : Int) < 60001) = false := decide_eq_false (by omega)
                      clear hcu'
                      go_upto_region 30 with (fail)
                      have tok8 : True := trivial; have tok9 : True := trivial
                      go_wp2_with (first | (have _t := tok8; refine wpList_load_row (o := ⟨some 176, _, _, _, _, _⟩) rfl 76 (.tmp 2) rfl a rfl 76 _ _ _ T9 Tryz.underlying76 rfl hi' ?_; clear tok8 _t) | (have _t := tok9; refine wpList_store_row (o := ⟨none, .store 76 (.tmp 4) (.tmp 176), _, _, _, _⟩) rfl 76 (.tmp 4) (.tmp 176) rfl (a + 1) _ rfl rfl 76 _ R9 hi' hold' hone' ?_; clear tok9 _t))
                      exact bodyPost_ret (results_line Tryz.results33 rfl rfl (R9.row _) hi') rfl HX
                    · have t1 : decide ((k : Int) < 1) = false := decide_eq_false hn9
                      clear hcu'
                      go_upto_region 30 with (fail)
                      have tok8 : True := trivial; have tok9 : True := trivial
                      go_wp2_with (first | (have _t := tok8; refine wpList_load_row (o := ⟨some 176, _, _, _, _, _⟩) rfl 76 (.tmp 2) rfl a rfl 76 _ _ _ T9 Tryz.underlying76 rfl hi' ?_; clear tok8 _t) | (have _t := tok9; refine wpList_store_row (o := ⟨none, .store 76 (.tmp 4) (.tmp 176), _, _, _, _⟩) rfl 76 (.tmp 4) (.tmp 176) rfl (a + 1) _ rfl rfl 76 _ R9 hi' hold' hone' ?_; clear tok9 _t))
                      exact bodyPost_ret (results_line Tryz.results33 rfl rfl (R9.row _) hi') rfl HX
              · have HE : Hid (rLine s ws = none) := HBad.out (by rw [HWO.out, if_neg (fun q => hl1 (q.2.1 hj0))])
                have tl : ((NL : Int) != 1) = true := by rw [bne_iff_ne]; omega
                clear HWO
                go_quiet (fail)
                go_upto_region 17 with (fail)
                have tok8 : True := trivial; have tok9 : True := trivial
                go_wp2_with (first | (have _t := tok8; refine wpList_load_row (o := ⟨some 129, _, _, _, _, _⟩) rfl 76 (.tmp 2) rfl a rfl 76 _ _ _ (A3.drewN nq) Tryz.underlying76 rfl hi ?_; clear tok8 _t) | (have _t := tok9; refine wpList_store_row (o := ⟨none, .store 76 (.tmp 4) (.tmp 129), _, _, _, _⟩) rfl 76 (.tmp 4) (.tmp 129) rfl (a + 1) _ rfl rfl 76 _ (R3.out.drewN nq) hi hold hone ?_; clear tok9 _t))
                have HX : RLineR w B N s us EA ec (rLine s ws) (.returned (.tuple #[.agg cs, .bool false])) ((wr.drewN nq).setRow (a + 1) cs) := by
                  rw [HE.out]
                  exact ⟨Keeps.of_below ((keeps_row _ _ _).below (below_drewN kb3 nq) (by have := Blk.lt (R3.out.drewN nq); omega) (fun x e _ => by have e' : x = a + 1 := e; omega)), by rw [HCS.out]⟩
                exact bodyPost_ret (results_line Tryz.results33 rfl rfl (Blk.row (R3.out.drewN nq) _) hi) rfl HX
end Go.Proofs.YtjjgngccgjpnaaaGreatDoor
