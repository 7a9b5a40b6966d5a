/- copy and make, over a block that is known whole; a slice of words read as a list. No program in sight. -/
import Derived.Test.YtjjgngccgjpnaaaGreatDoorKeep
import Derived.Laws.CopyOwn
import Derived.Laws.MakeOwn
namespace Go.Proofs.YtjjgngccgjpnaaaGreatDoor
set_option linter.unusedVariables false
set_option linter.unusedSimpArgs false
open Go.RowKit

theorem grown_setRow (w : World) (g : Nat) (cs : Array Value) : w.grownBy (w.setRow g cs) (some g) :=
  ⟨rfl, rfl, rfl, by simp [World.setRow], fun k _ hne => setRow_other w g k cs (fun e => hne (congrArg some e))⟩

/-- copy into block g from place off on: cs goes over; of the world behind it the block, and that all others are as they were. -/
theorem wpList_copy_blk {P : Program} {w : World} {ops : Array Oper} {rest : List Oper} {o : Oper} {a : Act} {Q : Exit → Act → World → Prop} (hgd : o.guard = none) (d s : Operand) (dT sT : TypeId)
    (ho : o.op = .call { callee := .builtin .copy, args := #[d, s], argTypes := #[dT, sT] }) (elem : TypeId) (hu : P.underlying dT = some (.slice elem)) (hsz : (P.info? elem).map (·.size) = some 1)
    (dp sp : Option Addr) (dLen dCap sLen sCap : Nat) (hd : a.eval d = .slice dp dLen dCap) (hs : a.eval s = .slice sp sLen sCap)
    (g off : Nat) (cur : List Value) (t : TypeId) (hg : Blk w g t cur.toArray) (cs : List Value) (hn : cs.length = Nat.min sLen dLen)
    (hpos : 0 < cs.length → dp = some ⟨g, off, none⟩ ∧ ∃ ad, sp = some ad ∧ ∀ j v, cs[j]? = some v → w.cell? (ad.add j) = some v)
    (hfit : off + cs.length ≤ cur.length) (h1 : ∀ v ∈ cs, v.oneCell' = true)
    (h : ∀ w', Hid (Blk w' g t (splice cur off cs).toArray) → w.grownBy w' (some g) → wpList P ops Q rest (a.put o.dst (goInt cs.length)) w') :
    wpList P ops Q (o :: rest) a w := by
  by_cases h0 : cs.length = 0
  · obtain rfl : cs = [] := List.eq_nil_of_length_eq_zero h0
    refine wpList_copy_nothing hgd d s dT sT ho elem hu hsz dp sp dLen dCap sLen sCap hd hs (by simpa using hn.symm) ?_
    exact h w (show Blk _ _ _ _ by simpa [splice] using hg) (World.grownBy.refl w _)
  · obtain ⟨rfl, ad, rfl, hsrc⟩ := hpos (by omega)
    refine wpList_copy_own hgd d s dT sT ho elem hu hsz g off dLen dCap ad sLen sCap hd hs cur.toArray t hg cs hn hsrc (by simpa using hfit) h1 ?_
    exact h _ (show _ = _ by simpa [splice] using setRow_heap w g _ _ t _ hg) (grown_setRow w g _)

theorem splice_all {α : Type} (L cs : List α) (h : cs.length = L.length) : splice L 0 cs = cs := by
  unfold splice
  simp [List.drop_eq_nil_of_le (by omega : L.length ≤ cs.length)]

/-- Words as cells. -/
def uc (x : Int) : Value := .int .u64 x
def us (x : Int) : List Value := [.int .u64 x]
theorem us_len (x : Int) : (us x).length = 1 := rfl
theorem us_map : ∀ l : List Int, l.flatMap us = l.map uc
  | [] => rfl
  | x :: r => by rw [List.flatMap_cons, us_map r]; rfl
theorem uc_one (l : List Int) : ∀ v ∈ l.map uc, v.oneCell' = true := by simp [uc, Value.oneCell']
/-- n noughts. -/
def zer (n : Nat) : Array Value := (List.replicate n (Value.int .u64 0)).toArray
theorem made_zer (n : Nat) : madeCells #[.int .u64 0] n = zer n := by
  unfold madeCells zer
  apply Array.ext
  · simp
  · intro i h1 h2
    simp
    rw [Nat.mod_one]
    rfl
theorem zer_map (n : Nat) : zer n = ((List.replicate n (0 : Int)).map uc).toArray := by simp [zer, uc, List.map_replicate]
theorem run_zer {P : Program} {t e : TypeId} (ht : P.underlying t = some (.slice e)) (hinfo : (P.info? e).map (fun i => (i.zero, i.size, i.bytes)) = some (some (.int .u64 0), 1, 8)) (n : Nat) (h : n ≤ 1000000) (w : World) :
    (Instr.makeSlice t (.int .i64 (n : Int)) (.int .i64 (n : Int))).run P w = .ok (.slice (some ⟨w.heap.size, 0, none⟩) n n) (w.alloc (.cells (zer n) e)) := by
  obtain ⟨i, hi, h0, h1, h2⟩ := info_parts hinfo
  have := run_make (P := P) w t e i (.int .u64 0) ht hi h0 .i64 .i64 (n : Int) (n : Int) (by omega) (Int.le_refl _) (by rw [h2]; omega) (by omega)
  rw [Int.toNat_natCast, h1, Nat.mul_one] at this
  rw [this]
  simp only [Value.cells, made_zer]

/-- A block of words, as a slice. -/
theorem Sl.of_words {w : World} {g : Nat} {t : TypeId} {l : List Int} (h : Blk w g t (l.map uc).toArray) {n c : Nat} (hn : l.length = n) (hc : n ≤ c) : Sl us w (some ⟨g, 0, none⟩) n c l :=
  ⟨hn, hc, by rw [us_map]; simpa using h.rd, fun q => by cases q⟩
theorem Sl.word {w : World} {A : Option Addr} {n c : Nat} {l : List Int} (h : Sl us w A n c l) : ∀ j v, (l.map uc)[j]? = some v → ∃ ad, A = some ad ∧ w.cell? (ad.add j) = some v := by
  have := h.rd
  rw [us_map] at this
  exact this
/-- A cell of an owned row of one-cell elements, changed. -/
theorem own_put {w : World} {base : Nat} {e : TypeId} {g n c : Nat} {xs : List Value} (h : w.ownsRow base e 1 (.slice (some ⟨g, 0, none⟩) n c) n xs) (k : Nat) (u : Value) :
    (w.setCell ⟨g, k, none⟩ u).ownsRow base e 1 (.slice (some ⟨g, 0, none⟩) n c) n (xs.set k u) := by
  rcases h.2 with ⟨hv, _⟩ | ⟨g', cap, cur, hv, hg, hh, hn, hm, hs, hx⟩
  · cases hv
  · cases hv
    refine ⟨by rw [List.length_set]; exact h.1, .inr ⟨g, c, cur.setIfInBounds k u, rfl, hg, Blk.set_ hh k u, hn, hm, by simpa using hs, ?_⟩⟩
    rw [← hx, Array.toList_setIfInBounds, List.take_set]
theorem own_drew {w : World} {base : Nat} {e : TypeId} {size n : Nat} {v : Value} {xs : List Value} (h : w.ownsRow base e size v n xs) : w.drew.ownsRow base e size v n xs := h
/-- An owned row of one-cell elements that isn't empty: its block. -/
theorem own_form1 {w : World} {base : Nat} {e : TypeId} {n c : Nat} {A : Option Addr} {xs : List Value} (h : w.ownsRow base e 1 (.slice A n c) n xs) (hn : 0 < n) :
    ∃ g, A = some ⟨g, 0, none⟩ ∧ base ≤ g ∧ g < w.heap.size ∧ (∀ k, w.frozen? ⟨g, k, none⟩ = false) ∧ ∀ k u, xs[k]? = some u → w.cell? ⟨g, k, none⟩ = some u := by
  have hc := Rd.of_own h
  rcases h.2 with ⟨hv, h0⟩ | ⟨g, cap, cur, hv, hg, hh, _⟩
  · omega
  · cases hv
    refine ⟨g, rfl, hg, Blk.lt hh, fun k => Blk.frozen hh k, fun k u hk => ?_⟩
    have := hc.some_ k u hk
    rwa [ad_flat] at this
end Go.Proofs.YtjjgngccgjpnaaaGreatDoor
