/- An answer that the document gives. -/
import Derived.Test.YtjjgngccgjpnaaaGreatDoorTxtQ
namespace Go.Proofs.YtjjgngccgjpnaaaGreatDoor
set_option linter.unusedVariables false
set_option linter.unusedSimpArgs false
open Go.RowKit

def txE : List UInt8 := [99, 111, 110, 102, 32, 49, 32, 49, 32, 48, 32, 50, 32, 49, 32, 49, 32, 48, 10, 99, 97, 108, 108, 32, 48, 32, 116, 101, 110, 100, 32, 48, 32, 48, 32, 48, 32, 48, 32, 48, 32, 48, 10, 112, 105, 99, 107, 32, 48, 32, 51, 10]
theorem txE_eq : (match pTake txE with | .ok s => s.es.length == 3 && s.ps.head? == some [⟨12, 0, 0, 0, 0, 0, 0⟩] | .error _ => false) = true := by kernel_rfl
theorem txE_ok : ∃ s l, pTake txE = .ok s ∧ s.es.length = 3 ∧ s.ps[0]? = some l ∧ l.length = 1 := by
  have h := txE_eq
  cases hp : pTake txE with
  | error q => rw [hp] at h; cases h
  | ok s =>
    rw [hp] at h
    obtain ⟨h1, h2⟩ := Bool.and_eq_true_iff.1 h
    exact ⟨s, _, rfl, by simpa using h1, by rw [← List.head?_eq_getElem?]; simpa using h2, rfl⟩
set_option maxHeartbeats 4000000 in
set_option maxRecDepth 100000 in
theorem lives40 {w : World} (hg : LV w) : Calls Tryz.prog 7 #[] w fun e w' => e = .returned (.bool true) ∧ Below w.heap.size w w' := by
  obtain ⟨s, l, h1, h2, h3, h4⟩ := txE_ok
  have ht := ttake_any txE (by decide) hg
  rw [h1] at ht
  have HT : Calls Tryz.prog 8 #[.string (bstr txE)] w fun e w' => Below w.heap.size w w' ∧ ∃ cs : List Value, e = .returned (.tuple #[.agg cs.toArray, .int .i64 0, .nilIface]) ∧ cs.length = 23 ∧ cs.toArray.all (·.oneCell') = true ∧ (∃ EA ec, cs[22]? = some (.slice EA 3 ec)) ∧ (∃ A c, cs[14]? = some (.slice A 1 c)) := ht.mono fun e w' ⟨hb, us, EA, ec, he, hP, hE, _⟩ => by
    have h8 := hP.u8
    obtain ⟨A', n', c', q1, q2, _⟩ := hP.at_ 0 l h3
    have hn : n' = 1 := by have := q2.len; omega
    subst hn
    rw [h2] at he
    exact ⟨hb, _, he, scc_len h8, scc_one hP EA 3 ec, ⟨EA, ec, scc_last h8⟩, ⟨A', c', scc_get (k := 0) q1⟩⟩
  have HH := Lib.hid HT
  clear ht HT h1 h2 h3 h4 hg
  go_enter Tryz.func7, Tryz.ntmps7
  have tok1 : True := trivial
  go_upto_region 2 with (first | (go_at_call 8; refine HH.out.mono ?_; rintro e w1 ⟨hb1, cs, rfl, hl, ho, ⟨EA, ec, c22⟩, ⟨A', c', c14⟩⟩; have hi : (Tryz.prog.info? 30).map (·.size) = some cs.toArray.size := (by rw [List.size_toArray, hl]; kernel_rfl); have hold : (#[.int .i64 0, .int .i64 0, .int .i64 0, .int .i64 0, .int .i64 0, .int .i64 0, .int .i64 0, .int .i64 0, .int .i64 0, .int .i64 0, .int .i64 0, .int .i64 0, .int .i64 0, .int .i64 0, .slice none 0 0, .slice none 0 0, .slice none 0 0, .slice none 0 0, .slice none 0 0, .slice none 0 0, .slice none 0 0, .slice none 0 0, .slice none 0 0] : Array Value).size = cs.toArray.size := (by rw [List.size_toArray, List.size_toArray, hl]; rfl)) | (have _t := tok1; refine wpList_store_row (o := ⟨none, .store 30 (.tmp 1) (.tmp 6), _, _, _, _⟩) rfl 30 (.tmp 1) (.tmp 6) rfl w1.heap.size _ rfl rfl 30 _ (Blk.new w1 _ _) hi hold ho ?_; clear tok1 _t))
  obtain ⟨W2, hW2, B2, k2⟩ : ∃ W2, (w1.alloc (.cells #[.int .i64 0, .int .i64 0, .int .i64 0, .int .i64 0, .int .i64 0, .int .i64 0, .int .i64 0, .int .i64 0, .int .i64 0, .int .i64 0, .int .i64 0, .int .i64 0, .int .i64 0, .int .i64 0, .slice none 0 0, .slice none 0 0, .slice none 0 0, .slice none 0 0, .slice none 0 0, .slice none 0 0, .slice none 0 0, .slice none 0 0, .slice none 0 0] 30)).setRow w1.heap.size cs.toArray = W2 ∧ Blk W2 w1.heap.size 30 cs.toArray ∧ Below w.heap.size w W2 := by
    refine ⟨_, rfl, (Blk.new w1 30 #[.int .i64 0, .int .i64 0, .int .i64 0, .int .i64 0, .int .i64 0, .int .i64 0, .int .i64 0, .int .i64 0, .int .i64 0, .int .i64 0, .int .i64 0, .int .i64 0, .int .i64 0, .int .i64 0, .slice none 0 0, .slice none 0 0, .slice none 0 0, .slice none 0 0, .slice none 0 0, .slice none 0 0, .slice none 0 0, .slice none 0 0, .slice none 0 0]).row _, ?_⟩
    exact (keeps_row _ _ _).below (bnew hb1 _) (by have := hb1.size; simp; omega) (fun x e _ => by have := hb1.size; have e' : x = w1.heap.size := e; omega)
  try simp only [Act.put]
  rw [hW2]
  clear hW2
  have x22 := B2.cell_ (i := 22) (by rw [List.getElem?_toArray]; exact c22)
  have x14 := B2.cell_ (i := 14) (by rw [List.getElem?_toArray]; exact c14)
  have z2 := B2.lt
  clear B2 hi hold ho hl c22 c14
  go_wp2_with fail
  go_ret
  exact ⟨rfl, k2⟩
end Go.Proofs.YtjjgngccgjpnaaaGreatDoor
