/- A line's words, by the document. -/
import Derived.Test.YtjjgngccgjpnaaaGreatDoorTxtR
namespace Go.Proofs.YtjjgngccgjpnaaaGreatDoor
set_option linter.unusedVariables false
set_option linter.unusedSimpArgs false
open Go.RowKit

/-- A byte as a rune's text. -/
def u8e (c : UInt8) : List UInt8 := if c.toNat < 128 then [c] else [UInt8.ofNat (192 + c.toNat / 64), UInt8.ofNat (128 + c.toNat % 64)]
def uenc (l : List UInt8) : List UInt8 := l.flatMap u8e
theorem utf_hi {k : Nat} (h : 128 ≤ k) (h2 : k < 256) : Utf8.encode (k : Int) = bstr [UInt8.ofNat (192 + k / 64), UInt8.ofNat (128 + k % 64)] := by
  unfold Utf8.encode
  have hv : Utf8.valid (k : Int) = true := by unfold Utf8.valid; simp; omega
  simp only [hv, if_true]
  have : (k : Int).toNat = k := by omega
  rw [this, if_neg (by omega), if_pos (by omega)]
  rfl
theorem u8_enc (c : UInt8) : Utf8.encode (c.toNat : Int) = bstr (u8e c) := by
  unfold u8e
  by_cases h : c.toNat < 128
  · rw [if_pos h, utf_lo h, UInt8.ofNat_toNat]
  · rw [if_neg h, utf_hi (by omega) (UInt8.toNat_lt c)]
theorem u8_lo {c : UInt8} (h : c.toNat < 128) : u8e c = [c] := if_pos h
theorem u8_hi {c : UInt8} (h : 128 ≤ c.toNat) : (u8e c).length = 2 ∧ ∀ x, x ∈ u8e c → 128 ≤ x.toNat := by
  have hlt := UInt8.toNat_lt c
  have h1 : c.toNat / 64 < 4 := by omega
  have h2 : c.toNat % 64 < 64 := by omega
  unfold u8e
  rw [if_neg (by omega)]
  refine ⟨rfl, fun x hx => ?_⟩
  simp only [List.mem_cons, List.not_mem_nil, or_false] at hx
  rcases hx with rfl | rfl
  · rw [UInt8.toNat_ofNat']
    omega
  · rw [UInt8.toNat_ofNat']
    omega
theorem u8_len (c : UInt8) : 1 ≤ (u8e c).length ∧ (u8e c).length ≤ 2 := by
  rcases Nat.lt_or_ge c.toNat 128 with h | h
  · rw [u8_lo h]; simp
  · rw [(u8_hi h).1]; simp
theorem uenc_len : ∀ l : List UInt8, l.length ≤ (uenc l).length ∧ (uenc l).length ≤ 2 * l.length
  | [] => ⟨Nat.le_refl _, Nat.le_refl _⟩
  | c :: t => by
    have h1 := u8_len c
    have h2 := uenc_len t
    have e : (uenc (c :: t)).length = (u8e c).length + (uenc t).length := by simp [uenc]
    rw [e]
    simp only [List.length_cons]
    omega
theorem uenc_lo : ∀ l : List UInt8, (∀ c, c ∈ l → c.toNat < 128) → uenc l = l
  | [], _ => rfl
  | c :: t, h => by
    have e : uenc (c :: t) = u8e c ++ uenc t := rfl
    rw [e, u8_lo (h c (List.mem_cons_self ..)), uenc_lo t fun d hd => h d (List.mem_cons_of_mem _ hd)]
    rfl
theorem uenc_hi : ∀ l : List UInt8, (∃ c, c ∈ l ∧ 128 ≤ c.toNat) → ∃ c, c ∈ uenc l ∧ 128 ≤ c.toNat
  | [], ⟨c, h, _⟩ => by cases h
  | d :: t, ⟨c, h, hc⟩ => by
    have e : uenc (d :: t) = u8e d ++ uenc t := rfl
    rcases List.mem_cons.1 h with q | q
    · subst q
      have h1 := u8_hi hc
      obtain ⟨x, hx⟩ := List.exists_mem_of_length_pos (l := u8e c) (by omega)
      exact ⟨x, by rw [e]; exact List.mem_append_left _ hx, h1.2 x hx⟩
    · obtain ⟨x, hx, hx2⟩ := uenc_hi t ⟨c, q, hc⟩
      exact ⟨x, by rw [e]; exact List.mem_append_right _ hx, hx2⟩
theorem uenc_snoc (l : List UInt8) (c : UInt8) : uenc (l ++ [c]) = uenc l ++ u8e c := by simp [uenc]
theorem head_app {α : Type} {l : List α} (h : l ≠ []) (m : List α) : (l ++ m).head? = l.head? ∧ (l ++ m).drop 1 = l.drop 1 ++ m := by
  cases l with
  | nil => exact absurd rfl h
  | cons a t => exact ⟨rfl, rfl⟩
theorem spl_sp (c : UInt8) : ∀ s : List UInt8, spl c (s ++ [c]) = spl c s ++ [[]]
  | [] => by simp [spl]
  | y :: t => by
    have e1 : ∀ r, spl c (y :: r) = if y = c then [] :: spl c r else (y :: (spl c r).head?.getD []) :: (spl c r).drop 1 := fun r => rfl
    have ih := spl_sp c t
    have h := head_app (spl_ne c t) [([] : List UInt8)]
    rw [List.cons_append, e1, e1, ih, h.1, h.2]
    split <;> rfl
theorem spl_ns (c x : UInt8) (hx : x ≠ c) : ∀ s : List UInt8, ∃ I z, spl c s = I ++ [z] ∧ spl c (s ++ [x]) = I ++ [z ++ [x]]
  | [] => ⟨[], [], rfl, by simp [spl, hx]⟩
  | y :: t => by
    have e1 : ∀ r, spl c (y :: r) = if y = c then [] :: spl c r else (y :: (spl c r).head?.getD []) :: (spl c r).drop 1 := fun r => rfl
    obtain ⟨I, z, h1, h2⟩ := spl_ns c x hx t
    rw [List.cons_append, e1, e1, h1, h2]
    by_cases hy : y = c
    · rw [if_pos hy, if_pos hy]
      exact ⟨[] :: I, z, rfl, rfl⟩
    · rw [if_neg hy, if_neg hy]
      cases I with
      | nil => exact ⟨[], y :: z, rfl, rfl⟩
      | cons i r => exact ⟨(y :: i) :: r, z, rfl, rfl⟩
def ewords (l : List UInt8) : List (List UInt8) := (spl 32 l).map uenc
def sv (x : List UInt8) : Value := .string (bstr x)
theorem elem_str : ∃ i, Elem Tryz.prog 67 9 i (.string ⟨#[]⟩) 1 16 := Elem.of Tryz.underlying67 (by kernel_rfl) rfl (by decide)
theorem sv_one (l : List (List UInt8)) : ∀ v ∈ l.map sv, v.oneCell' = true := by simp [sv, Value.oneCell']
/-- Words that are own. -/
def RWordsR (w : World) (ws : List (List UInt8)) (e : Ending) (w' : World) : Prop := ∃ A c, e = .returned (.slice A ws.length c) ∧ w'.ownsRow w.heap.size 9 1 (.slice A ws.length c) ws.length (ws.map sv) ∧ Below w.heap.size w w'
set_option maxHeartbeats 4000000 in
set_option maxRecDepth 100000 in
theorem rwords_any {w : World} (l : List UInt8) (hl : l.length ≤ 1000000) : Calls Tryz.prog 31 #[.string (bstr l)] w (RWordsR w (ewords l)) := by
  obtain ⟨i0, E⟩ := elem_str
  obtain ⟨s, hs⟩ : ∃ s, bstr l = s := ⟨_, rfl⟩
  obtain ⟨n, hn⟩ : ∃ n, l.length = n := ⟨_, rfl⟩
  have hsz : s.size = n := by rw [← hs, ← hn]; rfl
  have HS := Lib.hid hs
  have HN := Lib.hid hn
  rw [hn] at hl
  rw [hs]
  clear hs hn
  go_enter Tryz.func31, Tryz.ntmps31
  go_upto_region 2 with (fail)
  obtain ⟨W0, hW0, own0, b0⟩ : ∃ W0, w.alloc (.cells #[.string ⟨#[]⟩] 9) = W0 ∧ W0.ownsRow w.heap.size 9 1 (.slice (some ⟨w.heap.size, 0, none⟩) 1 1) 1 [.string ⟨#[]⟩] ∧ Below w.heap.size w W0 :=
    ⟨_, rfl, (Blk.new w 9 #[.string ⟨#[]⟩]).own (Nat.le_refl _) (Nat.le_refl _) (by decide) rfl rfl, bnew (brefl w) _⟩
  rw [hW0]
  clear hW0
  go_wp2_with fail
  go_loopg [3, 4] n (fun gk s3 s4 wr => ∃ (k m c : Nat) (A' : Option Addr) (I : List (List UInt8)) (z : List UInt8), k + gk = n ∧ s4 = .int .i64 k ∧ s3 = .slice A' (m + 1) c ∧ m ≤ k ∧ Hid (I.length = m) ∧ Hid (ewords (l.take k) = I ++ [z]) ∧ z.length ≤ 2 * k ∧ wr.ownsRow w.heap.size 9 1 (.slice A' (m + 1) c) (m + 1) ((I ++ [z]).map sv) ∧ Below w.heap.size w wr)
  case atStart => exact ⟨0, 0, 1, _, [], [], by omega, rfl, rfl, Nat.le_refl _, rfl, rfl, by simp, own0, b0⟩
  case round =>
    obtain ⟨k, m, c, A', I, z, hk, rfl, rfl, hmk, hI, hE, hz, own, hb⟩ := hrel
    by_cases hlt : k < n
    · have i0 : (0 : Int) ≤ (k : Int) := by omega
      have i1 : (k : Int) < (n : Int) := by omega
      obtain ⟨x, hx⟩ : ∃ x, l[k]? = some x := ⟨l[k]'(by rw [HN.out]; exact hlt), List.getElem?_eq_getElem (i := k) _⟩
      obtain ⟨hkx, hcx⟩ := byte_at (s := s) (k := k) (c := x) (by rw [← HS.out]; exact hx)
      have ht : l.take (k + 1) = l.take k ++ [x] := by
        obtain ⟨h1, h2⟩ := List.getElem?_eq_some_iff.1 hx
        rw [List.take_succ_eq_append_getElem h1, h2]
      have ck : IntKind.i64.wrap ((k : Int) + 1) = (k : Int) + 1 := IntWalk.i64_in _ (by omega)
      obtain ⟨y, hy⟩ : ∃ y, x.toNat = y := ⟨_, rfl⟩
      have hy256 : y < 256 := by rw [← hy]; exact UInt8.toNat_lt x
      by_cases h32 : x = 32
      · have hE2 : Hid (ewords (l.take (k + 1)) = (I ++ [z]) ++ [[]]) := by
          unfold Hid
          rw [← hE.out, ht, h32]
          unfold ewords
          rw [spl_sp, List.map_append]
          rfl
        obtain rfl : y = 32 := by rw [← hy, h32]; rfl
        have ho : Hid (∀ (w8 : World) (A8 : Option Addr) (c8 : Nat), w8.ownsRow w.heap.size 9 1 (.slice A8 (m + 1 + 1) c8) (m + 1 + 1) ((I ++ [z]).map sv ++ [.string ⟨#[]⟩]) → w8.ownsRow w.heap.size 9 1 (.slice A8 (m + 1 + 1) c8) (m + 1 + 1) (((I ++ [z]) ++ [[]]).map sv)) := fun w8 A8 c8 h => by
          rw [List.map_append (l₂ := [[]])]
          exact h
        have hI2 : Hid ((I ++ [z]).length = m + 1) := by rw [Hid, List.length_append, hI.out]; rfl
        obtain ⟨xs, hxs⟩ : ∃ xs, (I ++ [z]).map sv = xs := ⟨_, rfl⟩
        rw [hxs] at own ho
        clear hx ht h32 hE hI hxs
        have tok1 : True := trivial
        go_wp2_with (have _t := tok1; at_builtin; refine wpList_onto (W0 := w) (ys := [.string ⟨#[]⟩]) (m := 1) E rfl (.tmp 16) (.tmp 17) rfl (bnew hb _) rfl (own.alloc _) rfl rfl (Rd.new _ _ _ rfl) (by simp [Value.oneCell']) (by unfold maxLen; omega) (by omega) ?_; intro A8 c8 w8 own8 hb8 _; clear tok1 _t)
        go_roundg (gk - 1)
        case measure => omega
        case rel => exact ⟨k + 1, m + 1, c8, A8, I ++ [z], [], by omega, by go_num, rfl, by omega, hI2, hE2, by simp, ho.out _ _ _ own8, hb8⟩
      · have hE2 : Hid (ewords (l.take (k + 1)) = I ++ [z ++ u8e x]) := by
          unfold Hid
          obtain ⟨I', z', h1, h2⟩ := spl_ns 32 x h32 (l.take k)
          have hh := hE.out
          unfold ewords at hh ⊢
          rw [h1, List.map_append] at hh
          rw [ht, h2, List.map_append]
          obtain ⟨q1, q2⟩ := List.append_inj' hh rfl
          rw [q1]
          have q3 : uenc z' = z := by simpa using q2
          show I ++ [uenc (z' ++ [x])] = _
          rw [uenc_snoc, q3]
        have tn : ((y : Int) == 32) = false := by
          rw [beq_eq_false_iff_ne]
          intro e
          exact h32 (UInt8.toNat_inj.1 (by rw [hy]; show y = 32; omega))
        obtain ⟨g, rfl, hg1, hg2, hgf, hgc⟩ := own_form1 own (by omega)
        have hcz : wr.cell? ⟨g, m, none⟩ = some (.string (bstr z)) := hgc m _ (by rw [List.getElem?_map, List.getElem?_append_right (by rw [hI.out]; exact Nat.le_refl _), hI.out, Nat.sub_self]; rfl)
        have hfz := hgf m
        have c1 : IntKind.i64.wrap ((m : Int) + 1 - 1) = (m : Int) := by rw [IntWalk.i64_in _ (by omega)]; omega
        have j0 : (0 : Int) ≤ (m : Int) := by omega
        have j1 : (m : Int) < (m : Int) + 1 := by omega
        have he : Utf8.encode (y : Int) = bstr (u8e x) := by rw [← hy]; exact u8_enc x
        have z1 : (bstr z).size ≤ 2000000 := by rw [bstr_size]; omega
        have z2 : (bstr (u8e x)).size ≤ 2 := (u8_len x).2
        have own' : Hid ((wr.setCell ⟨g, m, none⟩ (.string (bstr z ++ bstr (u8e x)))).ownsRow w.heap.size 9 1 (.slice (some ⟨g, 0, none⟩) (m + 1) c) (m + 1) ((I ++ [z ++ u8e x]).map sv)) := by
          have := own_put own m (.string (bstr z ++ bstr (u8e x)))
          have e1 : ((I ++ [z]).map sv).set m (.string (bstr z ++ bstr (u8e x))) = (I ++ [z ++ u8e x]).map sv := by
            rw [List.map_append, List.set_append_right _ _ (by rw [List.length_map, hI.out]; exact Nat.le_refl _), List.length_map, hI.out, Nat.sub_self, bstr_app, List.map_append]
            rfl
          rw [e1] at this
          exact this
        have hb' : Hid (Below w.heap.size w (wr.setCell ⟨g, m, none⟩ (.string (bstr z ++ bstr (u8e x))))) := bset hb hg1 _
        have hzl : (z ++ u8e x).length ≤ 2 * (k + 1) := by rw [List.length_append]; have := (u8_len x).2; omega
        obtain ⟨Z, hZ⟩ : ∃ Z, bstr z = Z := ⟨_, rfl⟩
        obtain ⟨D, hD⟩ : ∃ D, bstr (u8e x) = D := ⟨_, rfl⟩
        rw [hZ] at hcz z1 own' hb'
        rw [hD] at he z2 own' hb'
        clear hx ht h32 hE hZ hD own hgc hgf
        go_upto_region 7 with (fail)
        have hX := @Ext.cell wr
        have hzz0 := block_lt_of_cell hcz
        refine wp_region_noPanic ?_
        refine NC.wp_region_last (fun w' => ∃ x : Ext wr, w' = x.w) 16 (NC.PG.fin [0, 1, 2, 3, 4, 5, 6, 7, 8, 9, 10, 11, 12, 13, 14, 15]) (by kernel_rfl) (by kernel_rfl) (by kernel_rfl) (fun _ _ _ _ _ h => h) ⟨⟨_, (brefl wr).drew⟩, rfl⟩ ?_
        refine NC.wpG_fin ?_
        simp only [NC.pickOps, List.getElem?_cons_succ, List.getElem?_cons_zero, Option.elim_some]
        repeat (go_big_quiet_step (fail))
        refine wpQuiet_nil ?_
        refine NC.lastG_some (fun K hK => ?_)
        go_simp
        refine hK.out _ _ ?_
        clear hK K
        refine NoPanic.normal ?_
        clear hX hzz0
        go_wp2_with fail
        go_roundg (gk - 1)
        case measure => omega
        case rel => exact ⟨k + 1, m, c, _, I, z ++ u8e x, by omega, by go_num, rfl, by omega, hI, hE2, hzl, own'.out, hb'.out.drew⟩
    · obtain rfl : k = n := by omega
      obtain rfl : gk = 0 := by omega
      have hX : Hid (ewords l = I ++ [z]) := by
        have := hE.out
        rw [List.take_of_length_le (by rw [HN.out]; exact Nat.le_refl _)] at this
        exact this
      have hXl : Hid ((I ++ [z]).length = m + 1) := by rw [Hid, List.length_append, hI.out]; rfl
      have u0 : decide ((k : Int) < (k : Int)) = false := decide_eq_false (by omega)
      clear hE hI
      go_wp2_with fail
      go_ret
      exact ⟨A', c, by rw [hX.out, hXl.out]; rfl, by rw [hX.out, hXl.out]; exact own, hb⟩
end Go.Proofs.YtjjgngccgjpnaaaGreatDoor
namespace Go.Proofs.YtjjgngccgjpnaaaGreatDoor
set_option linter.unusedVariables false
set_option linter.unusedSimpArgs false
open Go.RowKit

def strc (x : List UInt8) : List Value := [sv x]
theorem strc_len (x : List UInt8) : (strc x).length = 1 := rfl
theorem strc_map : ∀ l : List (List UInt8), l.flatMap strc = l.map sv
  | [] => rfl
  | x :: t => by
    rw [List.flatMap_cons, strc_map t]
    rfl
def numsI : List (List UInt8) → Option (List Int)
  | [] => some []
  | x :: t => (refI x).bind fun v => (numsI t).map fun r => v :: r
theorem numsI_some : ∀ {ws : List (List UInt8)} {ns : List Int}, numsI ws = some ns → ns.length = ws.length ∧ ∀ k : Nat, ns[k]? = (ws[k]?).bind refI
  | [], ns, h => by cases h; exact ⟨rfl, fun k => by simp⟩
  | x :: t, ns, h => by
    rw [numsI] at h
    obtain ⟨v, hv, h⟩ := Option.bind_eq_some_iff.1 h
    obtain ⟨r, hr, h⟩ := Option.map_eq_some_iff.1 h
    subst h
    obtain ⟨h1, h2⟩ := numsI_some hr
    refine ⟨by simp [h1], fun k => ?_⟩
    cases k with
    | zero => simp [hv]
    | succ k => simpa using h2 k
theorem numsI_none : ∀ {ws : List (List UInt8)}, numsI ws = none → ∃ (k : Nat) (x : List UInt8), ws[k]? = some x ∧ refI x = none
  | [], h => by cases h
  | x :: t, h => by
    rw [numsI] at h
    cases hx : refI x with
    | none => exact ⟨0, x, rfl, hx⟩
    | some v =>
      rw [hx, Option.bind_some] at h
      obtain ⟨k, y, h1, h2⟩ := numsI_none (ws := t) (by
        cases hn : numsI t with
        | none => rfl
        | some r => rw [hn] at h; cases h)
      exact ⟨k + 1, y, by simpa using h1, h2⟩
theorem refI_i {l : List UInt8} {v : Int} (h : refI l = some v) : I64 v := numI_i (by rw [numI_ref]; exact h)
def RNumsR (w : World) (ws : List (List UInt8)) (e : Ending) (w' : World) : Prop := Below w.heap.size w w' ∧ match numsI ws with
  | none => e = .returned (.tuple #[.slice none 0 0, .bool false])
  | some ns => ∃ A c, e = .returned (.tuple #[.slice A ns.length c, .bool true]) ∧ w'.ownsRow w.heap.size 3 1 (.slice A ns.length c) ns.length (ns.flatMap ic)
set_option maxHeartbeats 4000000 in
set_option maxRecDepth 100000 in
theorem rnumbers_any {w : World} {A : Option Addr} {n c : Nat} {ws : List (List UInt8)} (h : Sl strc w A n c ws) (hn : n ≤ 1000002) (hl : ∀ x, x ∈ ws → x.length ≤ 1000000) : Calls Tryz.prog 68 #[.slice A n c] w (RNumsR w ws) := by
  obtain ⟨i0, E⟩ := elem_i
  have hlen := Lib.hid h.len
  have HH := Lib.hid h
  have HLW := Lib.hid hl
  clear h hl
  go_enter Tryz.func68, Tryz.ntmps68
  go_upto_region 3 with (fail)
  go_wp2_with fail
  go_loopg [4, 5] n (fun gk s4 s5 wr => ∃ (k m d : Nat) (A' : Option Addr) (L : List Int), k + gk = n ∧ s5 = .int .i64 k ∧ m ≤ k ∧ s4 = .slice A' m d ∧ Hid (L.length = m) ∧ Hid (numsI ws = (numsI (ws.drop k)).map fun r => L ++ r) ∧ wr.ownsRow w.heap.size 3 1 (.slice A' m d) m (L.flatMap ic) ∧ Below w.heap.size w wr)
  case atStart => exact ⟨0, 0, 0, none, [], by omega, rfl, Nat.le_refl _, rfl, rfl, by rw [Hid, List.drop_zero]; simp, World.ownsRow_nil _ _ _ _, brefl w⟩
  case round =>
    obtain ⟨k, m, d, A', L, hk, rfl, hmk, rfl, hL, hE, own, hb⟩ := hrel
    by_cases hlt : k < n
    · have i0 : (0 : Int) ≤ (k : Int) := by omega
      have i1 : (k : Int) < (n : Int) := by omega
      obtain ⟨x, hx⟩ : ∃ x, ws[k]? = some x := ⟨_, List.getElem?_eq_getElem (by rw [hlen.out]; exact hlt)⟩
      obtain ⟨b, o', rfl, hbb, hcc⟩ := (HH.out.below hb).base strc_len (by decide) (by omega)
      have hcx : wr.cell? ⟨b, o' + k, none⟩ = some (.string (bstr x)) := by
        have := hcc k x 0 _ hx rfl
        rwa [Nat.mul_one, Nat.add_zero] at this
      have hd : ws.drop k = x :: ws.drop (k + 1) := by
        obtain ⟨h1, h2⟩ := List.getElem?_eq_some_iff.1 hx
        rw [List.drop_eq_getElem_cons h1, h2]
      have ck : IntKind.i64.wrap ((k : Int) + 1) = (k : Int) + 1 := IntWalk.i64_in _ (by omega)
      have hc := rnumber_any (w := wr) (bstr x) (by rw [bstr_size]; exact HLW.out x (List.mem_of_getElem? hx))
      have hE2 := hE.out
      rw [hd, numsI] at hE2
      clear hcc hE hd hx
      cases hr : refI x with
      | none =>
        rw [hr] at hE2
        have hX : Hid (numsI ws = none) := hE2
        have hc' : Calls Tryz.prog 17 #[.string (bstr x)] wr fun e w' => wr = w' ∧ e = .returned (.tuple #[.int .i64 0, .bool false]) := hc.mono fun e w' q => by
          have q' : wr = w' ∧ e = .returned (.tuple #[.int .i64 ((refI x).getD 0), .bool (refI x).isSome]) := q
          rw [hr] at q'
          exact q'
        obtain ⟨S, hS⟩ : ∃ S, bstr x = S := ⟨_, rfl⟩
        rw [hS] at hc' hcx
        clear hc hE2 hr hS
        go_wp2_with (go_at_call 17; refine hc'.mono ?_; rintro e w2 ⟨rfl, rfl⟩)
        go_ret2
        exact ⟨hb, by rw [hX.out]; rfl⟩
      | some v =>
        rw [hr, Option.bind_some] at hE2
        have hX : Hid (numsI ws = (numsI (ws.drop (k + 1))).map fun r => (L ++ [v]) ++ r) := by
          rw [Hid, hE2]
          cases numsI (ws.drop (k + 1)) with
          | none => rfl
          | some r => simp
        have hc' : Calls Tryz.prog 17 #[.string (bstr x)] wr fun e w' => wr = w' ∧ e = .returned (.tuple #[.int .i64 v, .bool true]) := hc.mono fun e w' q => by
          have q' : wr = w' ∧ e = .returned (.tuple #[.int .i64 ((refI x).getD 0), .bool (refI x).isSome]) := q
          rw [hr] at q'
          exact q'
        have hvi := refI_i hr
        have cv : IntKind.i64.wrap v = v := IntWalk.i64_in _ (by unfold I64 at hvi; omega)
        have hL2 : Hid ((L ++ [v]).length = m + 1) := by rw [Hid, List.length_append, hL.out]; rfl
        have ho : Hid (∀ (w8 : World) (A8 : Option Addr) (c8 : Nat), w8.ownsRow w.heap.size 3 1 (.slice A8 (m + 1) c8) (m + 1) (L.flatMap ic ++ [.int .i64 v]) → w8.ownsRow w.heap.size 3 1 (.slice A8 (m + 1) c8) (m + 1) ((L ++ [v]).flatMap ic)) := fun w8 A8 c8 h => by
          rw [List.flatMap_append]
          exact h
        obtain ⟨xs, hxs⟩ : ∃ xs, L.flatMap ic = xs := ⟨_, rfl⟩
        rw [hxs] at own ho
        obtain ⟨S, hS⟩ : ∃ S, bstr x = S := ⟨_, rfl⟩
        rw [hS] at hc' hcx
        clear hc hE2 hr hS hvi hxs
        have tok1 : True := trivial
        go_wp2_with (first | (go_at_call 17; refine hc'.mono ?_; rintro e w2 ⟨rfl, rfl⟩) | (have _t := tok1; at_builtin; refine wpList_onto (W0 := w) (ys := [.int .i64 v]) (m := 1) E rfl (.tmp 24) (.tmp 26) rfl (bnew hb _) rfl (own.alloc _) rfl rfl (Rd.new _ _ _ rfl) (by simp [Value.oneCell']) (by unfold maxLen; omega) (by omega) ?_; intro A8 c8 w8 own8 hb8 _; clear tok1 _t))
        go_roundg (gk - 1)
        case measure => omega
        case rel => exact ⟨k + 1, m + 1, c8, A8, L ++ [v], by omega, by go_num, by omega, rfl, hL2, hX, ho.out _ _ _ own8, hb8⟩
    · have hX : Hid (numsI ws = some L) := by
        have := hE.out
        rw [List.drop_eq_nil_of_le (by rw [hlen.out]; omega)] at this
        rw [Hid, this]
        simp [numsI]
      have u0 : decide ((k : Int) < (n : Int)) = false := decide_eq_false (by omega)
      clear hE
      go_wp2_with fail
      go_ret2
      exact ⟨hb, by rw [hX.out]; exact ⟨A', d, by rw [hL.out]; rfl, by rw [hL.out]; exact own⟩⟩
end Go.Proofs.YtjjgngccgjpnaaaGreatDoor
namespace Go.Proofs.YtjjgngccgjpnaaaGreatDoor
set_option linter.unusedVariables false
set_option linter.unusedSimpArgs false
open Go.RowKit

def hiB (l : List UInt8) : Prop := ∃ c, c ∈ l ∧ 128 ≤ c.toNat
theorem lo_or (l : List UInt8) : hiB l ∨ ∀ c, c ∈ l → c.toNat < 128 := by
  by_cases h : hiB l
  · exact .inl h
  · exact .inr fun c hc => by
      rcases Nat.lt_or_ge c.toNat 128 with q | q
      · exact q
      · exact absurd ⟨c, hc, q⟩ h
theorem rB_hi : ∀ (l : List UInt8) (acc : Nat), hiB l → rB acc l = none
  | [], _, ⟨c, h, _⟩ => by cases h
  | x :: t, acc, ⟨c, h, hc⟩ => by
    rw [rB]
    rcases List.mem_cons.1 h with q | q
    · subst q
      rw [if_pos (by unfold dig; exact decide_eq_false (by omega))]
    · split
      · rfl
      · split
        · rfl
        · exact rB_hi t _ ⟨c, q, hc⟩
theorem refU_hi {l : List UInt8} (h : hiB l) : refU l = none := by
  unfold refU
  split
  · rfl
  · exact rB_hi l 0 h
theorem refI_hi {l : List UInt8} (h : hiB l) : refI l = none := by
  unfold refI
  split
  · next h45 =>
    have : hiB (l.drop 1) := by
      obtain ⟨c, hc, hg⟩ := h
      cases l with
      | nil => cases hc
      | cons x t =>
        have hx : x = 45 := by simpa using h45
        rcases List.mem_cons.1 hc with q | q
        · subst q; subst hx; exact absurd hg (by decide)
        · exact ⟨c, q, hg⟩
    rw [refU_hi this]
  · rw [refU_hi h]
theorem refU_uenc (l : List UInt8) : refU (uenc l) = refU l := by
  rcases lo_or l with h | h
  · rw [refU_hi h, refU_hi (uenc_hi l h)]
  · rw [uenc_lo l h]
theorem refI_uenc (l : List UInt8) : refI (uenc l) = refI l := by
  rcases lo_or l with h | h
  · rw [refI_hi h, refI_hi (uenc_hi l h)]
  · rw [uenc_lo l h]
theorem uenc_kw {l m : List UInt8} (hm : ∀ c, c ∈ m → c.toNat < 128) : uenc l = m ↔ l = m := by
  rcases lo_or l with h | h
  · constructor
    · intro e
      obtain ⟨c, hc, hg⟩ := uenc_hi l h
      have := hm c (e ▸ hc)
      omega
    · intro e
      obtain ⟨c, hc, hg⟩ := h
      have := hm c (e ▸ hc)
      omega
  · rw [uenc_lo l h]
/-- A configuration of the numbers of words. -/
def cfFrom : Nat → Nat → Cf → List Int → Cf
  | 0, _, c, _ => c
  | m + 1, k, c, ns => cfFrom m (k + 1) (c.setO k (ns.getD (2 + k) 0)) ns
def cfAll (ns : List Int) : Cf := { cfFrom (ns.getD 1 0).toNat 0 cf0 ns with lv := ns.getD 0 0, th := ns.getD 1 0, sl := ns.getD (2 + (ns.getD 1 0).toNat) 0, li := ns.getD (2 + (ns.getD 1 0).toNat + 1) 0, ge := ns.getD (2 + (ns.getD 1 0).toNat + 2) 0, qu := ns.getD (2 + (ns.getD 1 0).toNat + 3) 0 }
def rConf (ws : Wd) : Option Cf := if 7 ≤ ws.length ∧ ws[0]? = some confB then (numsI (ws.drop 1)).bind fun ns => if ns.getD 1 0 ≤ 8 ∧ (ns.length : Int) = 6 + max 0 (ns.getD 1 0) then some (cfAll ns) else none else none
theorem setO_lt (c : Cf) (k : Nat) (v a b : Int) : ({ c with lv := a, th := b } : Cf).setO k v = { c.setO k v with lv := a, th := b } := by
  unfold Cf.setO
  split <;> rfl
theorem cfFrom_lt (ns : List Int) (a b : Int) : ∀ (m k : Nat) (c : Cf), cfFrom m k { c with lv := a, th := b } ns = { cfFrom m k c ns with lv := a, th := b }
  | 0, _, _ => rfl
  | m + 1, k, c => by
    rw [cfFrom, setO_lt, cfFrom_lt ns a b m (k + 1) (c.setO k (ns.getD (2 + k) 0))]
    rfl
theorem numAt_ns {ws : Wd} {ns : List Int} (h : numsI (ws.drop 1) = some ns) (k : Nat) : numAt ws (k + 1) = ns[k]? := by
  rw [(numsI_some h).2 k, List.getElem?_drop, Nat.add_comm 1 k]
  unfold numAt
  congr 1
  funext l
  exact numI_ref l
theorem pOf_ns {ws : Wd} {ns : List Int} (h : numsI (ws.drop 1) = some ns) : ∀ (m k : Nat) (c : Cf), m + k ≤ 8 → 2 + k + m ≤ ns.length → pOf m k c ws = some (cfFrom m k c ns)
  | 0, _, _, _, _ => rfl
  | m + 1, k, c, h8, hl => by
    rw [pOf, if_neg (by omega), show 3 + k = (2 + k) + 1 by omega, numAt_ns h, List.getElem?_eq_getElem (show 2 + k < ns.length by omega), Option.bind_some, pOf_ns h m (k + 1) _ (by omega) (by omega), cfFrom, List.getD_eq_getElem?_getD, List.getElem?_eq_getElem (show 2 + k < ns.length by omega)]
    rfl
theorem pOf_num {ws : Wd} : ∀ (m k : Nat) (c c' : Cf), pOf m k c ws = some c' → ∀ i, i < m → ∃ v, numAt ws (3 + k + i) = some v
  | 0, _, _, _, _, i, hi => by omega
  | m + 1, k, c, c', h, i, hi => by
    rw [pOf] at h
    split at h
    · cases h
    · obtain ⟨v, hv, h⟩ := Option.bind_eq_some_iff.1 h
      cases i with
      | zero => exact ⟨v, hv⟩
      | succ i =>
        have := pOf_num m (k + 1) _ c' h i (by omega)
        rwa [show 3 + (k + 1) + i = 3 + k + (i + 1) by omega] at this
theorem pConf_some {ws : Wd} {c : Cf} (h : pConf ws = some c) : ws[0]? = some confB ∧ ∃ th, numAt ws 2 = some th ∧ ws.length = 7 + th.toNat ∧ th.toNat ≤ 8 ∧ ∀ j, 1 ≤ j → j < ws.length → ∃ v, numAt ws j = some v := by
  unfold pConf at h
  obtain ⟨f, h0, h⟩ := Option.bind_eq_some_iff.1 h
  obtain ⟨lv, h1, h⟩ := Option.bind_eq_some_iff.1 h
  obtain ⟨th, h2, h⟩ := Option.bind_eq_some_iff.1 h
  obtain ⟨c1, h3, h⟩ := Option.bind_eq_some_iff.1 h
  unfold pConf4 at h
  obtain ⟨sl, h4, h⟩ := Option.bind_eq_some_iff.1 h
  obtain ⟨li, h5, h⟩ := Option.bind_eq_some_iff.1 h
  obtain ⟨ge, h6, h⟩ := Option.bind_eq_some_iff.1 h
  obtain ⟨qu, h7, h⟩ := Option.bind_eq_some_iff.1 h
  split at h
  · next hq =>
    have h8 := (pOf_le _ _ _ _ _ h3 (by omega)).1
    refine ⟨hq.1 ▸ h0, th, h2, by omega, by omega, fun j hj1 hj2 => ?_⟩
    rcases (by omega : j = 1 ∨ j = 2 ∨ (3 ≤ j ∧ j < 3 + th.toNat) ∨ j = 3 + th.toNat ∨ j = 3 + th.toNat + 1 ∨ j = 3 + th.toNat + 2 ∨ j = 3 + th.toNat + 3) with rfl | rfl | ⟨ha, hb⟩ | rfl | rfl | rfl | rfl
    · exact ⟨_, h1⟩
    · exact ⟨_, h2⟩
    · obtain ⟨i, rfl⟩ : ∃ i, j = 3 + 0 + i := ⟨j - 3, by omega⟩
      exact pOf_num _ _ _ _ h3 i (by omega)
    · exact ⟨_, h4⟩
    · exact ⟨_, h5⟩
    · exact ⟨_, h6⟩
    · exact ⟨_, h7⟩
  · cases h
theorem getD_ns {ns : List Int} {k : Nat} (h : k < ns.length) : ns[k]? = some (ns.getD k 0) := by
  rw [List.getD_eq_getElem?_getD, List.getElem?_eq_getElem h]
  rfl
theorem rConf_eq (ws : Wd) : rConf ws = pConf ws := by
  have hno : (∀ c, pConf ws ≠ some c) → pConf ws = none := fun h => by
    cases hp : pConf ws with
    | none => rfl
    | some c => exact absurd hp (h c)
  unfold rConf
  by_cases h7 : 7 ≤ ws.length ∧ ws[0]? = some confB
  · rw [if_pos h7]
    cases hn : numsI (ws.drop 1) with
    | none =>
      refine (hno fun c hc => ?_).symm
      obtain ⟨_, th, _, _, _, hj⟩ := pConf_some hc
      obtain ⟨k, x, hk, hx⟩ := numsI_none hn
      rw [List.getElem?_drop] at hk
      obtain ⟨v, hv⟩ := hj (1 + k) (by omega) (List.getElem?_eq_some_iff.1 hk).1
      unfold numAt at hv
      rw [hk, Option.bind_some, numI_ref, hx] at hv
      cases hv
    | some ns =>
      have hl : ns.length = ws.length - 1 := by rw [(numsI_some hn).1, List.length_drop]
      rw [Option.bind_some]
      have hth : numAt ws 2 = some (ns.getD 1 0) := by rw [numAt_ns hn 1]; exact getD_ns (by omega)
      by_cases hq : ns.getD 1 0 ≤ 8 ∧ (ns.length : Int) = 6 + max 0 (ns.getD 1 0)
      · rw [if_pos hq]
        have hlv : numAt ws 1 = some (ns.getD 0 0) := by rw [numAt_ns hn 0]; exact getD_ns (by omega)
        have hnl : ns.length = 6 + (ns.getD 1 0).toNat := by omega
        obtain ⟨th, hth'⟩ : ∃ th, ns.getD 1 0 = th := ⟨_, rfl⟩
        have n1 := numAt_ns hn (2 + th.toNat)
        have n2 := numAt_ns hn (2 + th.toNat + 1)
        have n3 := numAt_ns hn (2 + th.toNat + 2)
        have n4 := numAt_ns hn (2 + th.toNat + 3)
        rw [getD_ns (by omega)] at n1 n2 n3 n4
        unfold pConf
        rw [h7.2, Option.bind_some, hlv, Option.bind_some, hth, Option.bind_some, pOf_ns hn _ 0 _ (by omega) (by omega), Option.bind_some]
        unfold pConf4
        rw [hth', show 3 + th.toNat = 2 + th.toNat + 1 by omega, n1, Option.bind_some, show 2 + th.toNat + 1 + 1 = 2 + th.toNat + 1 + 1 from rfl, n2, Option.bind_some, show 2 + th.toNat + 1 + 2 = 2 + th.toNat + 2 + 1 by omega, n3, Option.bind_some, show 2 + th.toNat + 1 + 3 = 2 + th.toNat + 3 + 1 by omega, n4, Option.bind_some, if_pos ⟨rfl, by omega⟩, cfFrom_lt]
        unfold cfAll
        rw [hth']
      · rw [if_neg hq]
        refine (hno fun c hc => ?_).symm
        obtain ⟨_, th, h2, h3, h4, _⟩ := pConf_some hc
        rw [hth] at h2
        cases h2
        exact hq ⟨by omega, by omega⟩
  · rw [if_neg h7]
    refine (hno fun c hc => ?_).symm
    obtain ⟨h0, th, _, h3, _, _⟩ := pConf_some hc
    exact h7 ⟨by omega, h0⟩
/-- The words as the document reads them. -/
theorem numAt_enc (ws : Wd) (k : Nat) : numAt (ws.map uenc) k = numAt ws k := by
  unfold numAt
  rw [List.getElem?_map]
  cases ws[k]? with
  | none => rfl
  | some x =>
    show numI (uenc x) = numI x
    rw [numI_ref, numI_ref, refI_uenc]
theorem bitAt_enc (ws : Wd) (k : Nat) : bitAt (ws.map uenc) k = bitAt ws k := by
  unfold bitAt
  rw [List.getElem?_map]
  cases ws[k]? with
  | none => rfl
  | some x =>
    show numU (uenc x) = numU x
    rw [numU_ref, numU_ref, refU_uenc]
theorem thrAt_enc (th : Int) (ws : Wd) (k : Nat) : thrAt th (ws.map uenc) k = thrAt th ws k := by
  unfold thrAt
  rw [numAt_enc]
theorem pOf_enc (ws : Wd) : ∀ (m k : Nat) (c : Cf), pOf m k c (ws.map uenc) = pOf m k c ws
  | 0, _, _ => rfl
  | m + 1, k, c => by
    rw [pOf, pOf, numAt_enc]
    split
    · rfl
    · congr 1
      funext v
      exact pOf_enc ws m (k + 1) _
theorem confB_lo : ∀ c, c ∈ confB → c.toNat < 128 := by decide
theorem pConf_enc (ws : Wd) : pConf (ws.map uenc) = pConf ws := by
  unfold pConf pConf4
  simp only [numAt_enc, pOf_enc, List.length_map, List.getElem?_map]
  cases ws[0]? with
  | none => rfl
  | some f => simp only [Option.map_some, Option.bind_some, uenc_kw confB_lo]
end Go.Proofs.YtjjgngccgjpnaaaGreatDoor
