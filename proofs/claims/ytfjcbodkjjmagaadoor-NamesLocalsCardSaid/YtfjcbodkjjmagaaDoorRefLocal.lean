/-
  The reference's Local: contract. By an AI agent.
-/
import Derived.Test.YtfjcbodkjjmagaaDoorLocal
namespace Go.Proofs.YtfjcbodkjjmagaaDoor
open Go.RowKit
set_option maxRecDepth 100000

/-- what the reference's Local answers -/
def refLocV : List UInt8 ⊕ (Nat × Int) → Value
  | .inl t => .tuple #[.string (B t), .agg #[.int .i64 0, .int .i64 0]]
  | .inr (p, n) => .tuple #[.string ⟨#[]⟩, .agg #[.int .i64 (p : Int), .int .i64 n]]
theorem refLocV_bad {x : List UInt8 ⊕ (Nat × Int)} {p : Nat} {n : Int} (h : x = .inr (p, n)) : Ending.returned (.tuple #[.string ⟨#[]⟩, .agg #[.int .i64 (p : Int), .int .i64 n]]) = .returned (refLocV x) := by rw [h]; rfl
theorem refLocV_ok {x : List UInt8 ⊕ (Nat × Int)} {t : List UInt8} (h : x = .inl t) : Ending.returned (.tuple #[.string (B t), .agg #[.int .i64 0, .int .i64 0]]) = .returned (refLocV x) := by rw [h]; rfl
theorem new_cell {w w' : World} {cs : Array Value} {T : TypeId} (h : Below (w.alloc (.cells cs T)).heap.size (w.alloc (.cells cs T)) w') (k : Nat) (x : Value) (hx : cs[k]? = some x) : w'.cell? ⟨w.heap.size, k, none⟩ = some x := by
  rw [h.cell (p := ⟨w.heap.size, k, none⟩) (by simp), World.cell?_alloc_new]
  exact hx
theorem new_frozen {w w' : World} {cs : Array Value} {T : TypeId} (h : Below (w.alloc (.cells cs T)).heap.size (w.alloc (.cells cs T)) w') (k : Nat) : w'.frozen? ⟨w.heap.size, k, none⟩ = false := by
  rw [h.frozen (p := ⟨w.heap.size, k, none⟩) (by simp)]
  simp
theorem cell_grown {w w' : World} {row : Option Nat} {b o : Nat} {v : Value} (h : w.cell? ⟨b, o, none⟩ = some v) (hg : w.grownBy w' row) (hne : some b ≠ row) : w'.cell? ⟨b, o, none⟩ = some v := by
  have e := hg.block b (World.block_lt_of_cell? _ _ h) hne
  simpa [World.cell?, e] using h

set_option maxHeartbeats 1600000 in
theorem refLocal_l (l : List UInt8) (w : World) (hl : l.length ≤ 140737488351232) :
    Calls Tryd.prog 27 #[.string (B l)] w fun e w' => e = .returned (refLocV (locF l 0)) ∧ Below w.heap.size w w' := by
  obtain ⟨i0, hi, hz0, hz1, hz2⟩ := info_parts infoByte
  have NEXT := Lib.hid (fun (j : Nat) (hj : j < l.length) (v : Int) (n : Nat) (h : nextAt l j = (v, n)) (w : World) => h ▸ refNext_l l j w (by omega) (by omega))
  have PIE := Lib.hid (fun (j : Nat) (hj : j < l.length) (t : List UInt8) (n : Nat) (r : Int) (h : refPieceF l j = (t, n, r)) (w : World) => h ▸ refPiece_l l j w hl hj)
  have HC : Hid (∀ w3, Below (w.alloc (.cells #[.int .i64 0, .int .i64 0] 37)).heap.size (w.alloc (.cells #[.int .i64 0, .int .i64 0] 37)) w3 → ∀ (k : Nat) (x : Value), (#[.int .i64 0, .int .i64 0] : Array Value)[k]? = some x → w3.cell? ⟨w.heap.size, k, none⟩ = some x) := Lib.hid (fun w3 h k x hx => new_cell h k x hx)
  have HF : Hid (∀ w3, Below (w.alloc (.cells #[.int .i64 0, .int .i64 0] 37)).heap.size (w.alloc (.cells #[.int .i64 0, .int .i64 0] 37)) w3 → w3.frozen? ⟨w.heap.size, 0, none⟩ = false ∧ w3.frozen? ⟨w.heap.size, 1, none⟩ = false) := Lib.hid (fun w3 h => ⟨new_frozen h 0, new_frozen h 1⟩)
  have HB : Hid (∀ w3, Below (w.alloc (.cells #[.int .i64 0, .int .i64 0] 37)).heap.size (w.alloc (.cells #[.int .i64 0, .int .i64 0] 37)) w3 → Below w.heap.size w w3) := Lib.hid (fun w3 h => ((Below.refl w.heap.size w).alloc (Nat.le_refl _) _).trans (h.mono (by simp)))
  go_enter Tryd.func27, Tryd.ntmps27
  go_wp2_with fail
  go_loopw [4, 5] (fun o i wr => ∃ (j : Nat) (acc : List UInt8), i = .int .i64 j ∧ j ≤ l.length ∧ acc.length ≤ j ∧ Hid (locF l 0 = putF acc (locF l j)) ∧ wr.ownsRow (w.alloc (.cells #[.int .i64 0, .int .i64 0] 37)).heap.size 5 1 o acc.length (acc.map U8) ∧ Below (w.alloc (.cells #[.int .i64 0, .int .i64 0] 37)).heap.size (w.alloc (.cells #[.int .i64 0, .int .i64 0] 37)) wr) (fun _ i _ => l.length - (intOf i).toNat)
  case atStart => exact ⟨0, [], rfl, Nat.zero_le _, Nat.le_refl _, Lib.hid (putF_nil _).symm, World.ownsRow_nil _ _ _ _, Below.refl _ _⟩
  case round =>
    obtain ⟨j, acc, rfl, hj, hacc, HS, hown, hb⟩ := hrel
    by_cases hlt : j < l.length
    · obtain ⟨t, n, r, hp⟩ : ∃ t n r, refPieceF l j = (t, n, r) := ⟨_, _, _, rfl⟩
      obtain ⟨v, m, hq⟩ : ∃ v m, nextAt l (j : Int) = (v, m) := ⟨_, _, rfl⟩
      have N2 := Lib.hid (NEXT.out j hlt v m hq)
      have P2 := Lib.hid (PIE.out j hlt t n r hp)
      rcases refPiece_cases hp hq with ⟨hm, hst⟩ | ⟨hm, ⟨hn, hst⟩ | ⟨hn, hr, hst⟩ | ⟨hn, hr, hjn, hst⟩⟩
      · have HE : Hid (locF l 0 = .inr (j, 40)) := Lib.hid (by rw [HS.out, locF_bad hlt hst]; rfl)
        have e0 : ((m : Int) == 0) = true := by rw [hm]; rfl
        clear hp hq HS hst hm
        go_wp2_with (first | (go_at_call 63; refine (P2.out _).mono ?_; rintro e w1 ⟨rfl, hx1⟩; unfold refPieceV) | (go_at_call 41; refine (N2.out _).mono ?_; rintro e w3 ⟨rfl, hx3⟩; unfold pairI; have q1 := new_cell hx3 1 _ rfl; have q2 := new_cell hx3 2 _ rfl; have q3 := new_cell hx3 3 _ rfl; have h03 := hx1.trans ((((Below.refl w1.heap.size w1).alloc (Nat.le_refl _) _).trans (hx3.mono (by simp))).mono hx1.size); have hown2 := ownsRow_below hown h03; have hb2 := hb.trans (h03.mono hb.size); have c0 := HC.out _ hb2 0 _ rfl; have c1 := HC.out _ hb2 1 _ rfl; obtain ⟨f0, f1⟩ := HF.out _ hb2; clear hx3 h03) | fail)
        refine bodyPost_ret (v := .tuple #[.string ⟨#[]⟩, .agg #[.int .i64 (j : Int), .int .i64 40]]) (by simp [results, Tryd.results27, go_sem, c0, c1]) rfl ?_
        exact ⟨refLocV_bad HE.out, ((HB.out _ hb2).setCell (by simp) _).setCell (by simp) _⟩
      · have HE : Hid (locF l 0 = .inr (j, 62)) := Lib.hid (by rw [HS.out, locF_bad hlt hst]; rfl)
        have e0 : ((m : Int) == 0) = false := beq_eq_false_iff_ne.2 (by omega)
        have e1 : ((n : Int) == 0) = true := by rw [hn]; rfl
        clear hp hq HS hst hm hn
        go_wp2_with (first | (go_at_call 63; refine (P2.out _).mono ?_; rintro e w1 ⟨rfl, hx1⟩; unfold refPieceV) | (go_at_call 41; refine (N2.out _).mono ?_; rintro e w3 ⟨rfl, hx3⟩; unfold pairI; have q1 := new_cell hx3 1 _ rfl; have q2 := new_cell hx3 2 _ rfl; have q3 := new_cell hx3 3 _ rfl; have h03 := hx1.trans ((((Below.refl w1.heap.size w1).alloc (Nat.le_refl _) _).trans (hx3.mono (by simp))).mono hx1.size); have hown2 := ownsRow_below hown h03; have hb2 := hb.trans (h03.mono hb.size); have c0 := HC.out _ hb2 0 _ rfl; have c1 := HC.out _ hb2 1 _ rfl; obtain ⟨f0, f1⟩ := HF.out _ hb2; clear hx3 h03) | fail)
        refine bodyPost_ret (v := .tuple #[.string ⟨#[]⟩, .agg #[.int .i64 (j : Int), .int .i64 62]]) (by simp [results, Tryd.results27, go_sem, c0, c1]) rfl ?_
        exact ⟨refLocV_bad HE.out, ((HB.out _ hb2).setCell (by simp) _).setCell (by simp) _⟩
      · subst hr
        have e0 : ((m : Int) == 0) = false := beq_eq_false_iff_ne.2 (by omega)
        have e1 : ((n : Int) == 0) = false := beq_eq_false_iff_ne.2 (by omega)
        have hbd := stepL_bound hst
        have hjn : j + n ≤ l.length := by omega
        have hjn1 : j < j + n := by omega
        have HE : Hid (locF l 0 = putF (acc ++ t) (locF l (j + n))) := Lib.hid (by rw [HS.out, locF_step hlt hst, putF_put])
        have HL := Lib.hid hbd.2.2
        have hlx : acc.length + t.length ≤ 140737488355328 := by omega
        have hlt0 := hown.lt
        have HLT := Lib.hid hlt0
        clear hp hq HS hst hbd hm hn hlt0
        go_wp2_with (first | (go_at_call 63; refine (P2.out _).mono ?_; rintro e w1 ⟨rfl, hx1⟩; unfold refPieceV) | (go_at_call 41; refine (N2.out _).mono ?_; rintro e w3 ⟨rfl, hx3⟩; unfold pairI; have q1 := new_cell hx3 1 _ rfl; have q2 := new_cell hx3 2 _ rfl; have q3 := new_cell hx3 3 _ rfl; have h03 := hx1.trans ((((Below.refl w1.heap.size w1).alloc (Nat.le_refl _) _).trans (hx3.mono (by simp))).mono hx1.size); have hown2 := ownsRow_below hown h03; have hb2 := hb.trans (h03.mono hb.size); have c0 := HC.out _ hb2 0 _ rfl; have c1 := HC.out _ hb2 1 _ rfl; obtain ⟨f0, f1⟩ := HF.out _ hb2; clear hx3 h03) | (at_builtin; refine Lib.wpList_append_own_string _ rfl (.tmp 51) (.tmp 53) 68 9 rfl (w.alloc (.cells #[.int .i64 0, .int .i64 0] 37)).heap.size 5 i0 Tryd.underlying68 Tryd.underlying9 hi hz0 hz1 hz2 _ _ _ rfl hown2 (B t) rfl ?c1 ?c2 hb2.size ?_) | fail)
        case c1 => have := B_size t; simp; unfold maxLen; omega
        case c2 => have := B_size t; simp; omega
        intro v' w9 hown9 hg9 _
        have q19 := cell_grown q1 hg9 (fun e => by have := (HLT.out _ e.symm).2; have := hx1.size; omega)
        have hown4 : w9.ownsRow (w.alloc (.cells #[.int .i64 0, .int .i64 0] 37)).heap.size 5 1 v' (acc ++ t).length ((acc ++ t).map U8) := by
          rw [strCells_l] at hown9
          simpa using hown9
        have hb4 := hb2.grown hg9 hb2.size (fun k hk => (hown2.lt k hk).1)
        clear hown hown2 hown9 hg9 q1 q2 q3 hx1 c0 c1 f0 f1 hb hb2
        go_wp2_with fail
        go_roundw
        case rel => exact ⟨j + n, acc ++ t, by go_num, hjn, by have := HL.out; simp; omega, HE, hown4, hb4⟩
        case measure => simp [intOf]; omega
      · have e0 : ((m : Int) == 0) = false := beq_eq_false_iff_ne.2 (by omega)
        have e1 : ((n : Int) == 0) = false := beq_eq_false_iff_ne.2 (by omega)
        have hnn : n ≤ l.length := by omega
        have MAY : Hid (∀ w, Calls Tryd.prog 56 #[.int .i64 r, .bool ((j : Int) == 0), .bool ((j : Int) + (n : Int) == (l.length : Int))] w fun e w' => e = .returned (.bool (standsB r (decide (j = 0)) (decide (j + n = l.length)))) ∧ Below w.heap.size w w') := by
          refine Lib.hid (fun w => ?_)
          have h1 : ((j : Int) == 0) = decide (j = 0) := by rw [Bool.eq_iff_iff]; simp
          have h2 : ((j : Int) + (n : Int) == (l.length : Int)) = decide (j + n = l.length) := by rw [Bool.eq_iff_iff]; simp; omega
          rw [h1, h2]
          exact may_any r _ _ w
        cases hs : standsB r (decide (j = 0)) (decide (j + n = l.length)) with
        | true =>
          rw [hs, if_pos rfl] at hst
          rw [hs] at MAY
          have hbd := stepL_bound hst
          have hjn1 : j < j + n := by omega
          have HE : Hid (locF l 0 = putF (acc ++ t) (locF l (j + n))) := Lib.hid (by rw [HS.out, locF_step hlt hst, putF_put])
          have HL := Lib.hid hbd.2.2
          have hlx : acc.length + t.length ≤ 140737488355328 := by omega
          have hlt0 := hown.lt
          have HLT := Lib.hid hlt0
          clear hp hq HS hst hbd hm hn hs hlt0
          go_wp2_with (first | (go_at_call 63; refine (P2.out _).mono ?_; rintro e w1 ⟨rfl, hx1⟩; unfold refPieceV) | (go_at_call 41; refine (N2.out _).mono ?_; rintro e w3 ⟨rfl, hx3⟩; unfold pairI; have q1 := new_cell hx3 1 _ rfl; have q2 := new_cell hx3 2 _ rfl; have q3 := new_cell hx3 3 _ rfl; have h03 := hx1.trans ((((Below.refl w1.heap.size w1).alloc (Nat.le_refl _) _).trans (hx3.mono (by simp))).mono hx1.size); have hown2 := ownsRow_below hown h03; have hb2 := hb.trans (h03.mono hb.size); have c0 := HC.out _ hb2 0 _ rfl; have c1 := HC.out _ hb2 1 _ rfl; obtain ⟨f0, f1⟩ := HF.out _ hb2; clear hx3 h03) | (go_at_call 56; refine (MAY.out _).mono ?_; rintro e w4 ⟨rfl, hx4⟩; have q12 := (hx4.cell (World.block_lt_of_cell? _ _ q1)).trans q1; have q22 := (hx4.cell (World.block_lt_of_cell? _ _ q2)).trans q2; have c02 := (hx4.cell (World.block_lt_of_cell? _ _ c0)).trans c0; have c12 := (hx4.cell (World.block_lt_of_cell? _ _ c1)).trans c1; have f02 := (hx4.frozen (World.block_lt_of_cell? _ _ c0)).trans f0; have f12 := (hx4.frozen (World.block_lt_of_cell? _ _ c1)).trans f1; have hown3 := ownsRow_below hown2 hx4; have hb3 := hb2.trans (hx4.mono hb2.size); clear q1 q2 q3 c0 c1 f0 f1 hown2 hb2 hx4) | (at_builtin; refine Lib.wpList_append_own_string _ rfl (.tmp 51) (.tmp 53) 68 9 rfl (w.alloc (.cells #[.int .i64 0, .int .i64 0] 37)).heap.size 5 i0 Tryd.underlying68 Tryd.underlying9 hi hz0 hz1 hz2 _ _ _ rfl hown3 (B t) rfl ?c1 ?c2 hb3.size ?_) | fail)
          case c1 => have := B_size t; simp; unfold maxLen; omega
          case c2 => have := B_size t; simp; omega
          intro v' w9 hown9 hg9 _
          have q19 := cell_grown q12 hg9 (fun e => by have := (HLT.out _ e.symm).2; have := hx1.size; omega)
          have hown4 : w9.ownsRow (w.alloc (.cells #[.int .i64 0, .int .i64 0] 37)).heap.size 5 1 v' (acc ++ t).length ((acc ++ t).map U8) := by
            rw [strCells_l] at hown9
            simpa using hown9
          have hb4 := hb3.grown hg9 hb3.size (fun k hk => (hown3.lt k hk).1)
          clear hown hown3 hown9 hg9 q12 q22 hx1 c02 c12 f02 f12 hb hb3
          go_wp2_with fail
          go_roundw
          case rel => exact ⟨j + n, acc ++ t, by go_num, hjn, by have := HL.out; simp; omega, HE, hown4, hb4⟩
          case measure => simp [intOf]; omega
        | false =>
          rw [hs, if_neg (by simp)] at hst
          rw [hs] at MAY
          have HE : Hid (locF l 0 = .inr (j, 62)) := Lib.hid (by rw [HS.out, locF_bad hlt hst]; rfl)
          clear hp hq HS hst hm hn hs
          go_wp2_with (first | (go_at_call 63; refine (P2.out _).mono ?_; rintro e w1 ⟨rfl, hx1⟩; unfold refPieceV) | (go_at_call 41; refine (N2.out _).mono ?_; rintro e w3 ⟨rfl, hx3⟩; unfold pairI; have q1 := new_cell hx3 1 _ rfl; have q2 := new_cell hx3 2 _ rfl; have q3 := new_cell hx3 3 _ rfl; have h03 := hx1.trans ((((Below.refl w1.heap.size w1).alloc (Nat.le_refl _) _).trans (hx3.mono (by simp))).mono hx1.size); have hown2 := ownsRow_below hown h03; have hb2 := hb.trans (h03.mono hb.size); have c0 := HC.out _ hb2 0 _ rfl; have c1 := HC.out _ hb2 1 _ rfl; obtain ⟨f0, f1⟩ := HF.out _ hb2; clear hx3 h03) | (go_at_call 56; refine (MAY.out _).mono ?_; rintro e w4 ⟨rfl, hx4⟩; have q12 := (hx4.cell (World.block_lt_of_cell? _ _ q1)).trans q1; have q22 := (hx4.cell (World.block_lt_of_cell? _ _ q2)).trans q2; have c02 := (hx4.cell (World.block_lt_of_cell? _ _ c0)).trans c0; have c12 := (hx4.cell (World.block_lt_of_cell? _ _ c1)).trans c1; have f02 := (hx4.frozen (World.block_lt_of_cell? _ _ c0)).trans f0; have f12 := (hx4.frozen (World.block_lt_of_cell? _ _ c1)).trans f1; have hown3 := ownsRow_below hown2 hx4; have hb3 := hb2.trans (hx4.mono hb2.size); clear q1 q2 q3 c0 c1 f0 f1 hown2 hb2 hx4) | fail)
          refine bodyPost_ret (v := .tuple #[.string ⟨#[]⟩, .agg #[.int .i64 (j : Int), .int .i64 62]]) (by simp [results, Tryd.results27, go_sem, c02, c12]) rfl ?_
          exact ⟨refLocV_bad HE.out, ((HB.out _ hb3).setCell (by simp) _).setCell (by simp) _⟩
    · obtain rfl : j = l.length := by omega
      have HE : Hid (locF l 0 = .inl acc) := Lib.hid (by rw [HS.out, locF_end (Nat.le_refl _)]; simp [putF])
      have hback := bytes_back (P := Tryd.prog) 68 9 Tryd.underlying68 Tryd.underlying5 Tryd.underlying9 hown
      have c0 := HC.out _ hb 0 _ rfl
      have c1 := HC.out _ hb 1 _ rfl
      obtain ⟨f0, f1⟩ := HF.out _ hb
      clear HS
      go_wp2_with fail
      refine bodyPost_ret (v := .tuple #[.string (B acc), .agg #[.int .i64 0, .int .i64 0]]) (by simp [results, Tryd.results27, go_sem, c0, c1]) rfl ?_
      exact ⟨refLocV_ok HE.out, ((HB.out _ hb).setCell (by simp) _).setCell (by simp) _⟩
end Go.Proofs.YtfjcbodkjjmagaaDoor
