/- Numbers as words; a line of words is written. -/
import Derived.Test.YtjjgngccgjpnaaaGreatDoorTxuG
import Derived.Test.YtjjgngccgjpnaaaGreatDoorPlanN
namespace Go.Proofs.YtjjgngccgjpnaaaGreatDoor
set_option linter.unusedVariables false
set_option linter.unusedSimpArgs false
open Go.RowKit

def swv (x : List UInt8) : Value := .string (bstr x)
def swc (x : List UInt8) : List Value := [swv x]
theorem swc_len (x : List UInt8) : (swc x).length = 1 := rfl
theorem elem_sw : ∃ i, Elem Tryz.prog 67 9 i (.string ⟨#[]⟩) 1 16 := Elem.of Tryz.underlying67 (by kernel_rfl) rfl (by decide)
set_option maxHeartbeats 4000000 in
set_option maxRecDepth 100000 in
theorem tnums_any {w : World} {A : Option Addr} {n c : Nat} {ns : List Int} (h : Sl ic w A n c ns) (hn : n ≤ 1000) (hI : ∀ x, x ∈ ns → I64 x) (hv : LV w) : Calls Tryz.prog 74 #[.slice A n c] w fun e w' => Below w.heap.size w w' ∧ ∃ A' c', e = .returned (.slice A' n c') ∧ w'.ownsRow w.heap.size 9 1 (.slice A' n c') n ((ns.map Lib.itoa).flatMap swc) := by
  obtain ⟨i0, E⟩ := elem_sw
  have hlen := Lib.hid h.len
  have HH := Lib.hid h
  have HI := Lib.hid hI
  have HV := Lib.hid hv
  clear h hI hv
  go_enter Tryz.func74, Tryz.ntmps74
  go_upto_region 3 with (fail)
  go_wp2_with fail
  go_loopg [3, 8] n (fun gk s4 s5 wr => ∃ (k d : Nat) (A' : Option Addr), k + gk = n ∧ s5 = .int .i64 k ∧ s4 = .slice A' k d ∧ wr.ownsRow w.heap.size 9 1 (.slice A' k d) k (((ns.take k).map Lib.itoa).flatMap swc) ∧ Below w.heap.size w wr)
  case atStart => exact ⟨0, 0, none, by omega, rfl, rfl, World.ownsRow_nil _ _ _ _, brefl w⟩
  case round =>
    obtain ⟨k, d, A', hk, rfl, rfl, own, hb⟩ := hrel
    by_cases hlt : k < n
    · have i0 : (0 : Int) ≤ (k : Int) := by omega
      have i1 : (k : Int) < (n : Int) := by omega
      obtain ⟨x, hx⟩ : ∃ x, ns[k]? = some x := ⟨_, List.getElem?_eq_getElem (by rw [hlen.out]; exact hlt)⟩
      obtain ⟨b, o', rfl, hbb, hcc⟩ := (HH.out.below hb).base (s := 1) (fun _ => rfl) (by decide) (by omega)
      have hcx : wr.cell? ⟨b, o' + k, none⟩ = some (.int .i64 x) := by
        have := hcc k x 0 _ hx rfl
        rwa [Nat.mul_one, Nat.add_zero] at this
      have ck : IntKind.i64.wrap ((k : Int) + 1) = (k : Int) + 1 := IntWalk.i64_in _ (by omega)
      have hc := itoa_any x (HI.out x (List.mem_of_getElem? hx)) (HV.out.below hb)
      have ho : Hid (∀ (w8 : World) (A8 : Option Addr) (c8 : Nat), w8.ownsRow w.heap.size 9 1 (.slice A8 (k + 1) c8) (k + 1) ((((ns.take k).map Lib.itoa).flatMap swc) ++ [.string (bstr (Lib.itoa x))]) → w8.ownsRow w.heap.size 9 1 (.slice A8 (k + 1) c8) (k + 1) (((ns.take (k + 1)).map Lib.itoa).flatMap swc)) := fun w8 A8 c8 h => by
        rw [List.take_add_one, hx, List.map_append, List.flatMap_append]
        exact h
      obtain ⟨xs, hxs⟩ : ∃ xs, ((ns.take k).map Lib.itoa).flatMap swc = xs := ⟨_, rfl⟩
      rw [hxs] at own ho
      obtain ⟨S, hS⟩ : ∃ S, bstr (Lib.itoa x) = S := ⟨_, rfl⟩
      rw [hS] at hc ho
      clear hcc hx hxs hS
      have tok1 : True := trivial
      go_wp2_with (first | (go_at_call 38; refine hc.mono ?_; rintro e w2 ⟨rfl, hb2⟩) | (have _t := tok1; at_builtin; refine wpList_onto (W0 := w) (ys := [.string S]) (m := 1) E rfl (.tmp 12) (.tmp 15) rfl (bnew (bnext hb hb2) _) rfl ((own_below own hb2).alloc _) rfl rfl (Rd.new _ _ _ rfl) (by simp [Value.oneCell']) (by unfold maxLen; omega) (by omega) ?_; intro A8 c8 w8 own8 hb8 _; clear tok1 _t))
      go_roundg (gk - 1)
      case measure => omega
      case rel => exact ⟨k + 1, c8, A8, by omega, by go_num, rfl, ho.out _ _ _ own8, hb8⟩
    · have u0 : decide ((k : Int) < (n : Int)) = false := decide_eq_false (by omega)
      obtain rfl : k = n := by omega
      rw [List.take_of_length_le (by rw [hlen.out]; omega)] at own
      go_wp2_with fail
      go_ret
      exact ⟨hb, A', d, rfl, own⟩
def lineW (ws : List (List UInt8)) : List UInt8 := Lib.join ws [32] ++ [10]
theorem ownF_below {w w' : World} {B e size n : Nat} {v : Value} {xs : List Value} (h : w.ownsRowF B e size v n xs) (hb : Below w.heap.size w w') : w'.ownsRowF B e size v n xs := by
  refine ⟨h.1, ?_⟩
  rcases h.2 with h0 | ⟨g, cap, cur, fz, h1, h2, h3, h4⟩
  · exact .inl h0
  · have hlt : g < w.heap.size := by
      rcases Nat.lt_or_ge g w.heap.size with h' | h'
      · exact h'
      · simp [Array.getElem?_eq_none h'] at h3
    exact .inr ⟨g, cap, cur, fz, h1, h2, (hb.block g hlt).trans h3, h4⟩
theorem WT.below {B b : Nat} {l : List UInt8} {w w' : World} (h : WT B b l w) (hb : Below w.heap.size w w') : WT B b l w' := by
  rcases h with h | h
  · refine .inl ?_
    have hlt := h.lt
    obtain ⟨h1, v, h2, h3, h4⟩ := h
    exact ⟨h1, v, (hb.block b hlt).trans h2, ownF_below h3 hb, h4⟩
  · refine .inr ?_
    have hlt := h.lt
    obtain ⟨h1, v, h2, h3, h4⟩ := h
    exact ⟨h1, v, (hb.block b hlt).trans h2, ownF_below h3 hb, h4⟩
theorem WT.lt_ {B b : Nat} {l : List UInt8} {w : World} (h : WT B b l w) : b < w.heap.size := by
  rcases h with h | h
  · exact h.lt
  · exact h.lt
set_option maxHeartbeats 4000000 in
set_option maxRecDepth 100000 in
theorem wline_any {w : World} {B b n c : Nat} {A : Option Addr} {l : List UInt8} {ws : List (List UInt8)} (hW : WT B b l w) (hS : Sl swc w A n c ws) (h1 : 0 < n) (hn : n ≤ 1000) (hj : (lineW ws).length ≤ 1000000) (hl : l.length ≤ 1000000000) (hB : B ≤ w.heap.size) : Calls Tryz.prog 37 #[.pointer (some ⟨b, 0, none⟩), .slice A n c] w fun e w' => e = .returned (.tuple #[]) ∧ WT B b (l ++ lineW ws) w' ∧ Below B w w' ∧ w.heap.size ≤ w'.heap.size := by
  obtain ⟨bk, o', rfl, hbb, hcc⟩ := hS.base swc_len (by decide) h1
  have hlw := hS.len
  have hcap := hS.cap
  have HJ : Hid (∀ W, Below w.heap.size w W → Calls Tryz.prog 50 #[.slice (some ⟨bk, o', none⟩) n c, .string ⟨#[32]⟩] W fun e w' => e = .returned (.string (bstr (Lib.join ws [32]))) ∧ Below W.heap.size W w') := fun W hW => by
    have := Tryz.strings_Join bk o' c (ws.map bstr) ⟨#[32]⟩ W (fun j x hx => by
      obtain ⟨y, hy, rfl⟩ : ∃ y, ws[j]? = some y ∧ bstr y = x := by simpa using hx
      have := hcc j y 0 _ hy rfl
      rw [Nat.mul_one, Nat.add_zero] at this
      exact keep_below this hW) (Nat.lt_of_lt_of_le hbb hW.size) (by rw [List.length_map]; omega) (by rw [List.length_map]; omega) (by
      rw [List.map_map, show ((fun x : ByteArray => x.data.toList) ∘ bstr) = id by rfl, List.map_id]
      show (Lib.join ws [32]).length ≤ _
      unfold lineW at hj
      rw [List.length_append] at hj
      omega)
    rw [List.length_map, hlw, List.map_map, show ((fun x : ByteArray => x.data.toList) ∘ bstr) = id by rfl, List.map_id] at this
    exact this
  have HS : Hid (bstr (Lib.join ws [32]) ++ (⟨#[10]⟩ : ByteArray) = bstr (lineW ws)) := by
    rw [Hid, show (⟨#[10]⟩ : ByteArray) = bstr [10] from rfl, bstr_app]
    rfl
  have sJ : (bstr (Lib.join ws [32])).size ≤ 1000000 := by
    rw [bstr_size]
    unfold lineW at hj
    rw [List.length_append] at hj
    omega
  have hW2 : Hid (∀ W, Below w.heap.size w W → Calls Tryz.prog 75 #[.pointer (some ⟨b, 0, none⟩), .string (bstr (Lib.join ws [32]) ++ ⟨#[10]⟩)] W fun e w' => e = .returned (.tuple #[.int .i64 (bstr (Lib.join ws [32]) ++ (⟨#[10]⟩ : ByteArray)).size, .nilIface]) ∧ WT B b (l ++ lineW ws) w' ∧ Below B W w' ∧ W.heap.size ≤ w'.heap.size) := fun W hb => by
    rw [HS.out]
    exact wr_str (bstr (lineW ws)) (hW.below hb) (by rw [bstr_size]; omega) (Nat.le_trans hB hb.size)
  clear HS
  generalize bstr (Lib.join ws [32]) = S at *
  have c0 := hW.lt_
  clear hW hS hcc hj hl
  go_enter Tryz.func37, Tryz.ntmps37
  go_upto_region 0 with fail
  have hX := @Ext.cell w
  refine wp_region_noPanic ?_
  refine NC.wp_region_lastU (fun w' => ∃ x : Ext w, w' = x.w) 6 (NC.PG.one [0, 1, 2, 3] 4 (NC.PG.fin [5])) (by kernel_rfl) (by kernel_rfl) (by kernel_rfl) (fun _ _ _ _ _ h => h) ⟨⟨_, (brefl w).drew⟩, rfl⟩ ?_
  refine NC.wpG_one ?_
  simp only [NC.pickOps, List.getElem?_cons_succ, List.getElem?_cons_zero, Option.elim_some]
  repeat (go_big_quiet_step (fail))
  refine wpQuiet_nil ?_
  refine NC.planAct_some (fun K hK => ?_)
  go_simp
  refine (HJ.out _ (brefl w).drew).mono ?_
  rintro e w2 ⟨rfl, hb2⟩
  go_wp2_with fail
  refine hK.out _ _ ⟨⟨_, bnext (brefl w).drew hb2⟩, rfl⟩ ?_
  clear hK K
  refine NC.wpG_fin ?_
  simp only [NC.pickOps, List.getElem?_cons_succ, List.getElem?_cons_zero, Option.elim_some]
  repeat (go_big_quiet_step (fail))
  refine wpQuiet_nil ?_
  refine NC.lastG_some (fun K hK => ?_)
  go_simp
  refine (hW2.out _ (bnext (brefl w).drew hb2)).mono ?_
  rintro e w3 ⟨rfl, hW3, hb3, hs3⟩
  go_wp2_with fail
  refine hK.out _ _ ?_
  clear hK K
  refine NoPanic.normal ?_
  clear hX
  go_end0
  exact ⟨rfl, hW3, (((Below.refl B w).drew).trans (hb2.mono hB)).trans hb3, by have := hb2.size; have h5 : w.drew.heap.size = w.heap.size := rfl; omega⟩

end Go.Proofs.YtjjgngccgjpnaaaGreatDoor
