/-
  tesseraref04: Escape of a well-formed text, Unescape: contracts. By an AI agent.
-/
import Derived.Test.YtdhmpakhdhdebaaGreatDoorZRefEsc1
import Derived.Test.YtdhmpakhdhdebaaGreatDoorZBOwn
import Derived.Test.YtdhmpakhdhdebaaGreatDoorZGRef1
import Derived.Test.YtdhmpakhdhdebaaGreatDoorZKeep
namespace Go.Proofs.YtdhmpakhdhdebaaGreatDoor
open Go.Lib (hid)
open Go.RowKit
set_option maxRecDepth 100000
theorem fault_new (w : World) : RowAt (w.alloc (.cells #[.int .i64 0, .int .i64 0] 160)) w.heap.size [.int .i64 0, .int .i64 0] := rowAt_of_heap (L := [.int .i64 0, .int .i64 0]) (t := 160) (heap_alloc_new _ _)
theorem row_two {w : World} {g : Nat} {a b : Value} (h : RowAt w g [a, b]) : w.cell? ⟨g, 0, none⟩ = some a /\ w.cell? ⟨g, 1, none⟩ = some b /\ w.frozen? ⟨g, 0, none⟩ = false /\ w.frozen? ⟨g, 1, none⟩ = false /\ g < w.heap.size :=
 ⟨h.cell (j := 0) (by simp), h.cell (j := 1) (by simp), h.free (j := 0) (by simp), h.free (j := 1) (by simp), World.block_lt_of_cell? _ _ (h.cell (j := 0) (by simp))⟩
def unescV : List UInt8 ⊕ (Nat × Int) -> Value
 | .inl t => .tuple #[.string (B t), .agg #[.int .i64 0, .int .i64 0]]
 | .inr (p, e) => .tuple #[.string ⟨#[]⟩, .agg #[.int .i64 (p : Int), .int .i64 e]]
theorem byU_cells (r : Int) : (bytesOf r).map (Value.int .u8) = (byU r).map U8 := bytesU_cells r
theorem nextAt_of_ascii {l : List UInt8} {j : Nat} (h : (l.getD j 0).toNat < 128) (hj : j < l.length) : nextAt l (j : Int) = (((l.getD j 0).toNat : Int), 1) := by
 rw [nextAt_nat, List.drop_eq_getElem_cons hj]
 have e : l.getD j 0 = l[j] := by simp [List.getD, hj]
 rw [e] at h ⊢
 exact nextP_1 h
set_option maxHeartbeats 3200000 in
theorem refUnesc_l (way : Int) (l : List UInt8) (w : World) (hl : l.length <= 16777216) :
  Calls Tryz.prog 160 #[.string (B l), .int .i64 way] w fun e w' => e = .returned (unescV (unescF way l 0)) /\ Below w.heap.size w w' := by
 have NX := hid (fun (j : Nat) (hj : j < l.length) (v : Int) (n : Nat) (h : nextAt l (j : Int) = (v, n)) (u : World) => (by have := refNext_l l j u (by omega) (by omega); rw [h] at this; exact this : Calls Tryz.prog 64 #[.string (B l), .int .i64 (j : Int)] u fun e w' => e = .returned (.tuple #[.int .i64 v, .int .i64 (n : Int)]) /\ Below u.heap.size u w'))
 have ES := hid (fun (j : Nat) (hj : j < l.length) (v : Int) (n : Nat) (h : escN way (l.drop j) = (v, n)) (u : World) => (by have := refEscape_l way l j u (by omega) hj; rw [h] at this; exact this : Calls Tryz.prog 207 #[.string (B l), .int .i64 (j : Int), .int .i64 way] u fun e w' => e = .returned (.tuple #[.int .i64 v, .int .i64 (n : Int)]) /\ Below u.heap.size u w'))
 have BY := hid (fun (v : Int) (h0 : 0 <= v) (h1 : v <= 1114111) (u : World) => refBytes_any v u h0 h1)
 have F0 := hid (fault_new w)
 have B0 : Hid (Below w.heap.size w (w.alloc (.cells #[.int .i64 0, .int .i64 0] 160))) := hid ((Below.refl _ _).alloc (Nat.le_refl _) _)
 go_enter Tryz.func160, Tryz.ntmps160
 go_wp2_with fail
 go_loopw [6, 7] (fun v i wr => ∃ (j : Nat) (acc : List UInt8), i = .int .i64 j /\ j <= l.length /\ acc.length <= 4 * j /\ Hid (unescF way l 0 = putF acc (unescF way l j)) /\ Hid (BOwn (w.heap.size + 1) v acc wr) /\ Hid (Below w.heap.size w wr) /\ Hid (RowAt wr w.heap.size [.int .i64 0, .int .i64 0]) /\ w.heap.size + 1 <= wr.heap.size) (fun _ i _ => l.length - (intOf i).toNat)
 case atStart => exact ⟨0, [], rfl, Nat.zero_le _, Nat.zero_le _, hid (by cases unescF way l 0 <;> rfl), hid (BOwn.nil _ _), B0, F0, by simp⟩
 case round =>
  obtain ⟨j, acc, rfl, hj, hacc, HS, HO, HB, HF, hsz⟩ := hrel
  clear F0 B0
  by_cases hlt : j < l.length
  ·have q19 : decide ((j : Int) < (l.length : Int)) = true := decide_eq_true (by omega)
   obtain ⟨v, n, hq⟩ : ∃ v n, nextAt l (j : Int) = (v, n) := ⟨_, _, rfl⟩
   have N2 := hid (NX.out j hlt v n hq)
   by_cases hn : n = 0
   ·have e0 : ((n : Int) == 0) = true := by rw [hn]; rfl
    have h92 : l.getD j 0 ≠ 92 := by
     intro h
     have := nextAt_of_ascii (l := l) (j := j) (by rw [h]; decide) hlt
     rw [hq, hn] at this
     simp at this
    have HE : Hid (unescF way l 0 = .inr (j, 40)) := hid (by rw [HS.out, unescF_bad (v := v) (e := 40) hlt (by unfold atF; rw [if_neg h92, hq, hn])]; rfl)
    clear hq hn h92 HS NX ES BY
    go_wp2_with (go_at_call 64; (with_reducible refine (N2.out _).mono ?_); rintro e w2 ⟨rfl, hb2⟩; have HB2 := hid (HB.out.trans (hb2.mono HB.out.size)); obtain ⟨c0, c1, f0, f1, hg⟩ := row_two (rowAt_below HF.out hb2); clear hb2)
    refine bodyPost_ret (v := .tuple #[.string ⟨#[]⟩, .agg #[.int .i64 (j : Int), .int .i64 40]]) (by simp [results, Tryz.results160, go_sem, c0, c1]) rfl ?_
    rw [HE.out]
    exact ⟨rfl, (HB2.out.setCell (p := ⟨w.heap.size, 0, none⟩) (Nat.le_refl _) _).setCell (p := ⟨w.heap.size, 1, none⟩) (Nat.le_refl _) _⟩
   have e0 : ((n : Int) == 0) = false := beq_eq_false_iff_ne.2 (by omega)
   have hbd := nextAt_bound hq hn
   by_cases h92 : l.getD j 0 = 92
   ·have hv : v = 92 := by
     have := nextAt_of_ascii (l := l) (j := j) (by rw [h92]; decide) hlt
     rw [hq, h92] at this
     exact (Prod.mk.inj this).1
    have e1 : (v == 92) = true := beq_iff_eq.2 hv
    obtain ⟨r, m, hr⟩ : ∃ r m, escN way (l.drop j) = (r, m) := ⟨_, _, rfl⟩
    have E2 := hid (ES.out j hlt r m hr)
    by_cases hm : m = 0
    ·have e2 : ((m : Int) == 0) = true := by rw [hm]; rfl
     have HE : Hid (unescF way l 0 = .inr (j, 41)) := hid (by rw [HS.out, unescF_bad (v := r) (e := 41) hlt (by unfold atF; rw [if_pos h92, hr, hm])]; rfl)
     clear hq hn h92 HS NX ES BY hr hm hv hbd
     go_wp2_with (first
      | (go_at_call 64; (with_reducible refine (N2.out _).mono ?_); rintro e w2 ⟨rfl, hb2⟩; have HB2 := hid (HB.out.trans (hb2.mono HB.out.size)); have HF2 := hid (rowAt_below HF.out hb2); clear hb2)
      | (go_at_call 207; (with_reducible refine (E2.out _).mono ?_); rintro e w3 ⟨rfl, hb3⟩; have HB3 := hid (HB2.out.trans (hb3.mono HB2.out.size)); obtain ⟨c0, c1, f0, f1, hg⟩ := row_two (rowAt_below HF2.out hb3); clear hb3))
     refine bodyPost_ret (v := .tuple #[.string ⟨#[]⟩, .agg #[.int .i64 (j : Int), .int .i64 41]]) (by simp [results, Tryz.results160, go_sem, c0, c1]) rfl ?_
     rw [HE.out]
     exact ⟨rfl, (HB3.out.setCell (p := ⟨w.heap.size, 0, none⟩) (Nat.le_refl _) _).setCell (p := ⟨w.heap.size, 1, none⟩) (Nat.le_refl _) _⟩
    ·have e2 : ((m : Int) == 0) = false := beq_eq_false_iff_ne.2 (by omega)
     obtain ⟨hml, hsc⟩ := escN_bound hr hm
     have hjm : j + m <= l.length := by simp at hml; omega
     have hm1 : 1 <= m := by omega
     obtain ⟨r0, r1, _⟩ := scal_cases hsc
     have HE : Hid (unescF way l 0 = putF (acc ++ byU r) (unescF way l (j + m))) := hid (by rw [HS.out, unescF_go hlt (show atF way l j = ((r, m), 41) by unfold atF; rw [if_pos h92, hr]) hm, putF_put])
     have BR := hid (fun u => BY.out r r0 (by omega) u)
     have hbl := byU_len r
     have hlx : acc.length + (byU r).length <= 140737488355328 := by omega
     have hal : (acc ++ byU r).length <= 4 * (j + m) := by simp; omega
     clear hq hn h92 HS NX ES BY hr hm hv hbd hml hsc
     go_wp2_with (first
      | (go_at_call 64; (with_reducible refine (N2.out _).mono ?_); rintro e w2 ⟨rfl, hb2⟩; have HO2 := hid (HO.out.below hb2); have HB2 := hid (HB.out.trans (hb2.mono HB.out.size)); have HF2 := hid (rowAt_below HF.out hb2); have hs2 := hb2.size; clear hb2)
      | (go_at_call 207; (with_reducible refine (E2.out _).mono ?_); rintro e w3 ⟨rfl, hb3⟩; have HO3 := hid (HO2.out.below hb3); have HB3 := hid (HB2.out.trans (hb3.mono HB2.out.size)); have HF3 := hid (rowAt_below HF2.out hb3); have hs3 := hb3.size; clear hb3)
      | (go_at_call 138; (with_reducible refine (BR.out _).mono ?_); rintro e w4 ⟨c4, rfl, ha4, hb4⟩; have HA4 := hid (byU_cells r ▸ ha4); have HO4 := hid (HO3.out.below hb4); have HB4 := hid (HB3.out.trans (hb4.mono HB3.out.size)); have HF4 := hid (rowAt_below HF3.out hb4); have hs4 := hb4.size; clear hb4 ha4)
      | (at_builtin; refine wpList_app_bytes rfl (.tmp 37) (.tmp 39) rfl (w.heap.size + 1) _ acc (byU r) rfl HO4.out _ _ _ rfl (bytesU_length r).symm HA4.out hlx (by omega) ?_; intro v5 w5 hO5 hg5; have HO5 := hid hO5; have HB5 := hid (below_own HB4.out HO4.out hg5 (by omega)); have HF5 := hid (rowAt_own HF4.out HO4.out hg5 (by omega)); have hs5 := hg5.size; clear hO5 hg5))
     go_roundw
     case rel => exact ⟨j + m, acc ++ byU r, by go_num, hjm, hal, HE, HO5, HB5, HF5, by omega⟩
     case measure => simp [intOf]; omega
   ·have hv : v ≠ 92 := by
     intro h
     have h1 := nextAt_ascii hq hn (by omega)
     have h2 := (nextAt_bytes hq hn).1
     rw [h, h1] at h2
     have h3 : (l.drop j).take 1 = [l.getD j 0] := by
      rw [List.drop_eq_getElem_cons hlt, List.take_succ_cons, List.take_zero]; simp [List.getD, hlt]
     rw [h3] at h2
     have h4 : byU 92 = [92] := by decide
     rw [h4] at h2
     exact h92 (List.cons.inj h2).1.symm
    have e1 : (v == 92) = false := beq_eq_false_iff_ne.2 hv
    have hjn : j + n <= l.length := by omega
    have hn1 : 1 <= n := by omega
    have HE : Hid (unescF way l 0 = putF (acc ++ byU v) (unescF way l (j + n))) := hid (by rw [HS.out, unescF_go hlt (show atF way l j = ((v, n), 40) by unfold atF; rw [if_neg h92, hq]) hn, putF_put])
    have BR := hid (fun u => BY.out v hbd.2.2.1 hbd.2.2.2 u)
    have hbl := byU_len v
    have hlx : acc.length + (byU v).length <= 140737488355328 := by omega
    have hal : (acc ++ byU v).length <= 4 * (j + n) := by simp; omega
    clear hq hn h92 HS NX ES BY hv hbd
    go_wp2_with (first
     | (go_at_call 64; (with_reducible refine (N2.out _).mono ?_); rintro e w3 ⟨rfl, hb3⟩; have HO3 := hid (HO.out.below hb3); have HB3 := hid (HB.out.trans (hb3.mono HB.out.size)); have HF3 := hid (rowAt_below HF.out hb3); have hs3 := hb3.size; clear hb3)
     | (go_at_call 138; (with_reducible refine (BR.out _).mono ?_); rintro e w4 ⟨c4, rfl, ha4, hb4⟩; have HA4 := hid (byU_cells v ▸ ha4); have HO4 := hid (HO3.out.below hb4); have HB4 := hid (HB3.out.trans (hb4.mono HB3.out.size)); have HF4 := hid (rowAt_below HF3.out hb4); have hs4 := hb4.size; clear hb4 ha4)
     | (at_builtin; refine wpList_app_bytes rfl (.tmp 37) (.tmp 39) rfl (w.heap.size + 1) _ acc (byU v) rfl HO4.out _ _ _ rfl (bytesU_length v).symm HA4.out hlx (by omega) ?_; intro v5 w5 hO5 hg5; have HO5 := hid hO5; have HB5 := hid (below_own HB4.out HO4.out hg5 (by omega)); have HF5 := hid (rowAt_own HF4.out HO4.out hg5 (by omega)); have hs5 := hg5.size; clear hO5 hg5))
    go_roundw
    case rel => exact ⟨j + n, acc ++ byU v, by go_num, hjn, hal, HE, HO5, HB5, HF5, by omega⟩
    case measure => simp [intOf]; omega
  ·have q19 : decide ((j : Int) < (l.length : Int)) = false := decide_eq_false (by omega)
   have HE : Hid (unescF way l 0 = .inl acc) := hid (by rw [HS.out, unescF_end (by omega)]; simp [putF])
   have hback := HO.out.back
   obtain ⟨c0, c1, f0, f1, hg⟩ := row_two HF.out
   clear HS NX ES BY HF
   go_wp2_with fail
   refine bodyPost_ret (v := .tuple #[.string (B acc), .agg #[.int .i64 0, .int .i64 0]]) (by simp [results, Tryz.results160, go_sem, c0, c1]) rfl ?_
   rw [HE.out]
   exact ⟨rfl, (HB.out.setCell (p := ⟨w.heap.size, 0, none⟩) (Nat.le_refl _) _).setCell (p := ⟨w.heap.size, 1, none⟩) (Nat.le_refl _) _⟩
end Go.Proofs.YtdhmpakhdhdebaaGreatDoor
namespace Go.Proofs.YtdhmpakhdhdebaaGreatDoor
open Go.Lib (hid)
open Go.RowKit
set_option maxRecDepth 100000
structure FrameX (w w' : World) (bs : List Nat) : Prop where
 os : w'.os = w.os
 tape : w'.tape = w.tape
 output : w'.output = w.output
 size : w.heap.size <= w'.heap.size
 block : ∀ k, k < w.heap.size -> k ∉ bs -> w'.heap[k]? = w.heap[k]?
theorem FrameX.refl (w : World) (bs : List Nat) : FrameX w w bs := ⟨rfl, rfl, rfl, Nat.le_refl _, fun _ _ _ => rfl⟩
theorem FrameX.trans {w v u : World} {bs : List Nat} (h : FrameX w v bs) (h2 : FrameX v u bs) : FrameX w u bs :=
 ⟨h2.1.trans h.1, h2.2.trans h.2, h2.3.trans h.3, Nat.le_trans h.4 h2.4, fun k hk hn => (h2.5 k (Nat.lt_of_lt_of_le hk h.4) hn).trans (h.5 k hk hn)⟩
theorem FrameX.of_below {w w' : World} (h : Below w.heap.size w w') (bs : List Nat) : FrameX w w' bs := ⟨h.os, h.tape, h.output, h.size, fun k hk _ => h.block k hk⟩
theorem FrameX.step {w v u : World} {row : Option Nat} {bs : List Nat} (h : FrameX w v bs) (h2 : v.grownBy u row) (hr : ∀ k, row = some k -> w.heap.size <= k \/ k ∈ bs) : FrameX w u bs :=
 ⟨h2.1.trans h.1, h2.2.trans h.2, h2.3.trans h.3, Nat.le_trans h.4 h2.4, fun k hk hn => (h2.5 k (Nat.lt_of_lt_of_le hk h.4) (fun e => by
  rcases hr k e.symm with h | h
  ·omega
  ·exact hn h)).trans (h.5 k hk hn)⟩
theorem FrameX.mono {w v : World} {bs cs : List Nat} (h : FrameX w v bs) (hs : ∀ b, b ∈ bs -> b < w.heap.size -> b ∈ cs) : FrameX w v cs := ⟨h.1, h.2, h.3, h.4, fun k hk hn => h.5 k hk (fun hb => hn (hs k hb hk))⟩
theorem FrameX.below {w v u : World} {bs : List Nat} {B0 : Nat} (hb : Below B0 w v) (h : FrameX v u bs) (hB : B0 <= v.heap.size) (hs : ∀ b, b ∈ bs -> B0 <= b) : Below B0 w u :=
 hb.trans ⟨h.os, h.tape, h.output, h.size, fun k hk => h.block k (by omega) (fun hm => by have := hs k hm; omega)⟩
theorem FrameX.row {w v : World} {bs : List Nat} (h : FrameX w v bs) {g : Nat} {vs : List Value} (hR : RowAt w g vs) (hg : g < w.heap.size) (hn : g ∉ bs) : RowAt v g vs := fun j hj =>
 ⟨(World.cell?_of_block (a := ⟨g, j, none⟩) (h.block g hg hn)).trans (hR.cell hj), (World.frozen?_of_block (a := ⟨g, j, none⟩) (h.block g hg hn)).trans (hR.free hj)⟩
theorem FrameX.own {w v : World} {bs : List Nat} (h : FrameX w v bs) {base : Nat} {e : TypeId} {x : Value} {n : Nat} {xs : List Value} (ho : w.ownsRow base e 1 x n xs) (hn : ∀ g, x.ownBlock = some g -> g ∉ bs) : v.ownsRow base e 1 x n xs := by
 refine ⟨ho.1, ?_⟩
 rcases ho.2 with hx | ⟨g, cap, cur, rfl, hb, hgg, rest⟩
 ·exact .inl hx
 ·refine .inr ⟨g, cap, cur, rfl, hb, ?_, rest⟩
  rw [h.block g (Array.getElem?_eq_some_iff.1 hgg).1 (hn g rfl)]
  exact hgg
def RLangPost (w w' : World) (e : Ending) (b tb k : Nat) (r5 : List Value) : Option (List UInt8 × List UInt8 × List (List UInt8)) -> Prop
 | none => e = .returned (.bool false) /\ FrameX w w' [b, tb]
 | some (l, x, r) => e = .returned (.bool true) /\ FrameX w w' [b, tb] /\ ∃ lv', ViewAt w' k lv' r /\ RowAt w' b [lv'] /\ RowAt w' tb (.string (B l) :: .string (B x) :: r5)
theorem made28 (p : List UInt8) : madeB p 2 8 true = (madeB p 2 3 true || madeB p 4 8 true) := by
 rw [Bool.eq_iff_iff]
 unfold madeB
 simp
 constructor
 ·rintro ⟨h, h1, h2⟩
  by_cases h3 : p.length <= 3
  ·exact .inl ⟨h, h1, h3⟩
  ·exact .inr ⟨h, by omega, h2⟩
 ·rintro (⟨h, h1, h2⟩ | ⟨h, h1, h2⟩)
  ·exact ⟨h, h1, by omega⟩
  ·exact ⟨h, by omega, h2⟩
theorem seesM_more (lo hi : Nat) (ps : List (List UInt8)) : seesM (moreB lo hi false) ps = seesF (fun p => madeB p lo hi true) ps := by
 rcases ps with _ | ⟨p, r⟩
 ·rfl
 ·exact moreB_made lo hi p
theorem langF_short {p : List UInt8} {r : List (List UInt8)} (h : madeB p 2 3 true = true) : langF (p :: r) = some (p, joinD (ext3 3 r).1, (ext3 3 r).2) := by
 have hl := (made_len h).2
 rw [langF_yes (by rw [made28, h, Bool.true_or]), if_neg (by omega)]
theorem langF_long {p : List UInt8} {r : List (List UInt8)} (h : madeB p 4 8 true = true) : langF (p :: r) = some (p, [], r) := by
 have hl := (made_len h).1
 rw [langF_yes (by rw [made28, h, Bool.or_true]), if_pos (by omega)]
theorem langF_none {ps : List (List UInt8)} (h1 : seesM (moreB 2 3 false) ps = false) (h2 : seesM (moreB 4 8 false) ps = false) : langF ps = none := by
 rw [seesM_more] at h1 h2
 apply langF_no
 rcases ps with _ | ⟨p, r⟩
 ·rfl
 ·have h1' : madeB p 2 3 true = false := h1
  have h2' : madeB p 4 8 true = false := h2
  show madeB p 2 8 true = false
  rw [made28, h1', h2']
  rfl
theorem more23 (b k : Nat) (ps : List (List UInt8)) (lv : Value) (w : World) (hv : ViewAt w k lv ps) (hR : RowAt w b [lv]) (hp : ∀ p ∈ ps, p.length <= 140737488351232) :
  Calls Tryz.prog 213 #[.pointer (some ⟨b, 0, none⟩), .int .i64 2, .int .i64 3, .bool false] w fun e w' => e = .returned (.bool (seesM (moreB 2 3 false) ps)) /\ w' = w := more_l b k ps lv 2 3 false w hv hR hp (by omega) (by omega)
theorem more33 (b k : Nat) (ps : List (List UInt8)) (lv : Value) (w : World) (hv : ViewAt w k lv ps) (hR : RowAt w b [lv]) (hp : ∀ p ∈ ps, p.length <= 140737488351232) :
  Calls Tryz.prog 213 #[.pointer (some ⟨b, 0, none⟩), .int .i64 3, .int .i64 3, .bool false] w fun e w' => e = .returned (.bool (seesM (moreB 3 3 false) ps)) /\ w' = w := more_l b k ps lv 3 3 false w hv hR hp (by omega) (by omega)
theorem more48 (b k : Nat) (ps : List (List UInt8)) (lv : Value) (w : World) (hv : ViewAt w k lv ps) (hR : RowAt w b [lv]) (hp : ∀ p ∈ ps, p.length <= 140737488351232) :
  Calls Tryz.prog 213 #[.pointer (some ⟨b, 0, none⟩), .int .i64 4, .int .i64 8, .bool false] w fun e w' => e = .returned (.bool (seesM (moreB 4 8 false) ps)) /\ w' = w := more_l b k ps lv 4 8 false w hv hR hp (by omega) (by omega)
set_option maxHeartbeats 3200000 in
theorem rlang_l (b tb k : Nat) (ps : List (List UInt8)) (lv : Value) (r5 : List Value) (w : World) (hv : ViewAt w k lv ps) (hR : RowAt w b [lv]) (hT : RowAt w tb (.string ⟨#[]⟩ :: .string ⟨#[]⟩ :: r5)) (hk : k ≠ b) (hkt : k ≠ tb) (hbt : b ≠ tb) (hkw : k < w.heap.size) (hp : ∀ p ∈ ps, p.length <= 140737488351232) :
  Calls Tryz.prog 212 #[.pointer (some ⟨b, 0, none⟩), .pointer (some ⟨tb, 0, none⟩)] w fun e w' => RLangPost w w' e b tb k r5 (langF ps) := by
 have hbw : b < w.heap.size := World.block_lt_of_cell? _ _ (row_of hR 0 _ rfl).1
 have htw : tb < w.heap.size := World.block_lt_of_cell? _ _ (row_of hT 0 _ rfl).1
 have M23 := hid (more23 b k ps lv w hv hR hp)
 have M48 := hid (more48 b k ps lv w hv hR hp)
 have NEXT := hid (fun p ps lv w => rnext_l b k p ps lv w)
 have HV := hid hv
 have HR := hid hR
 have HT := hid hT
 have HP := hid hp
 clear hv hR hp hT
 cases h23 : seesM (moreB 2 3 false) ps with
 | false =>
  rw [h23] at M23
  cases h48 : seesM (moreB 4 8 false) ps with
  | false =>
   have HL := hid (langF_none h23 h48)
   rw [h48] at M48
   clear h23 h48
   go_enter Tryz.func212, Tryz.ntmps212
   go_wp2_with (first | (go_at_call 213; (with_reducible refine M23.out.mono ?_); rintro e w3 ⟨rfl, hw3⟩; obtain rfl := hw3.symm) | (go_at_call 213; (with_reducible refine M48.out.mono ?_); rintro e w3 ⟨rfl, hw3⟩; obtain rfl := hw3.symm) | fail)
   go_ret
   rw [HL.out]
   exact ⟨rfl, FrameX.refl _ _⟩
  | true =>
   rcases ps with _ | ⟨p, ps⟩
   ·cases h48
   have hmd : madeB p 4 8 true = true := by rw [seesM_more] at h48; exact h48
   have HL := hid (langF_long (r := ps) hmd)
   rw [h48] at M48
   have NX := hid (NEXT.out p ps lv w HV.out HR.out hk)
   clear h23 h48 hmd
   go_enter Tryz.func212, Tryz.ntmps212
   go_wp2_with (first | (go_at_call 213; (with_reducible refine M23.out.mono ?_); rintro e w3 ⟨rfl, hw3⟩; obtain rfl := hw3.symm) | (go_at_call 213; (with_reducible refine M48.out.mono ?_); rintro e w3 ⟨rfl, hw3⟩; obtain rfl := hw3.symm) | (go_at_call 214; (with_reducible refine NX.out.mono ?_); rintro e w4 ⟨rfl, lv4, hv4, hR4, hg4⟩; have hT4 := HT.out.grown hg4 (by simpa using fun h => hbt h.symm) htw; have c0 := (row_of hT4 0 _ rfl).1; have f0 := (row_of hT4 0 _ rfl).2; have HX := hid (And.intro hv4 (And.intro hR4 (And.intro hg4 hT4))); clear hv4 hR4 hg4 hT4) | fail)
   go_ret
   rw [HL.out]
   obtain ⟨hv4, hR4, hg4, hT4⟩ := HX.out
   have hgs := grownBy_set w4 tb 0 (.string (B p))
   have hb4 : b < w4.heap.size := World.block_lt_of_cell? _ _ (row_of hR4 0 _ rfl).1
   exact ⟨rfl, ((FrameX.refl w [b, tb]).step hg4 (fun j hj => by cases hj; simp)).step hgs (fun j hj => by cases hj; simp), lv4, hv4.grown hgs (by simpa using hkt), hR4.grown hgs (by simpa using hbt) hb4, hT4.set (j := 0) (by simp) _⟩
 | true =>
  rcases ps with _ | ⟨p, ps⟩
  ·cases h23
  have hmd : madeB p 2 3 true = true := by rw [seesM_more] at h23; exact h23
  have HL := hid (langF_short (r := ps) hmd)
  rw [h23] at M23
  have NX := hid (NEXT.out p ps lv w HV.out HR.out hk)
  have hpl : ∀ q ∈ ps, q.length <= 140737488351232 := fun q hq => HP.out q (by simp [hq])
  have HPL := hid hpl
  have M33 := hid (fun left lv u => more33 b k left lv u)
  obtain ⟨i0, hi, hz0, hz1, hz2⟩ := info_parts infoStr
  clear h23 hmd hpl
  go_enter Tryz.func212, Tryz.ntmps212
  go_wp2_with (first | (go_at_call 213; (with_reducible refine M23.out.mono ?_); rintro e w3 ⟨rfl, hw3⟩; obtain rfl := hw3.symm) | (go_at_call 214; (with_reducible refine NX.out.mono ?_); rintro e w4 ⟨rfl, lv4, hv4, hR4, hg4⟩; have hT4 := HT.out.grown hg4 (by simpa using fun h => hbt h.symm) htw; have c0 := (row_of hT4 0 _ rfl).1; have f0 := (row_of hT4 0 _ rfl).2; have HX := hid (And.intro hv4 (And.intro hR4 (And.intro hg4 hT4))); clear hv4 hR4 hg4 hT4) | fail)
  go_loopw [5] (fun sv wr => ∃ (taken left : List (List UInt8)) (lv : Value), wr.ownsRow w.heap.size 9 1 sv taken.length (taken.map strV) /\ taken.length <= 3 /\ (joinD taken).length <= 4 * taken.length /\ (∀ q ∈ left, q.length <= 140737488351232) /\ Hid (ext3 3 ps = (taken ++ (ext3 (3 - taken.length) left).1, (ext3 (3 - taken.length) left).2)) /\ ViewAt wr k lv left /\ RowAt wr b [lv] /\ RowAt wr tb (.string (B p) :: .string ⟨#[]⟩ :: r5) /\ FrameX w wr [b, tb]) (fun sv _ => 3 - slLen sv)
  case atStart =>
   obtain ⟨hv4, hR4, hg4, hT4⟩ := HX.out
   have hgs := grownBy_set w4 tb 0 (.string (B p))
   have hb4 : b < w4.heap.size := World.block_lt_of_cell? _ _ (row_of hR4 0 _ rfl).1
   exact ⟨[], ps, lv4, World.ownsRow_nil _ _ _ _, by simp, by simp [joinD], HPL.out, hid (by simp), hv4.grown hgs (by simpa using hkt), hR4.grown hgs (by simpa using hbt) hb4, hT4.set (j := 0) (by simp) _, ((FrameX.refl w [b, tb]).step hg4 (fun j hj => by cases hj; simp)).step hgs (fun j hj => by cases hj; simp)⟩
  case round =>
   clear HX
   obtain ⟨taken, left, lv, hown, htn, htl, hpp, HM, hv, hR, hT, hg⟩ := hrel
   have MM := hid (M33.out left lv wr hv hR hpp)
   obtain ⟨a, cap, rfl, hcap, _, hA⟩ := ownsRow_at hown
   by_cases h3 : taken.length < 3
   ·cases hq : seesM (moreB 3 3 false) left with
    | true =>
     rcases left with _ | ⟨q, left⟩
     ·cases hq
     have hmd : madeB q 3 3 true = true := by rw [seesM_more] at hq; exact hq
     have hql := (made_len hmd).2
     rw [hq] at MM
     have HE : Hid (ext3 3 ps = ((taken ++ [q]) ++ (ext3 (3 - (taken ++ [q]).length) left).1, (ext3 (3 - (taken ++ [q]).length) left).2)) := hid (by rw [HM.out, ext3_yes (by omega) hmd, List.length_append, show 3 - taken.length - 1 = 3 - (taken.length + [q].length) by simp; omega]; simp)
     have hjl : (joinD (taken ++ [q])).length <= 4 * (taken ++ [q]).length := by
      by_cases ht0 : taken = []
      ·subst ht0; simp [joinD]; omega
      ·rw [joinD_snoc _ _ ht0]; simp; omega
     have HPP := hid (fun z (hz : z ∈ left) => hpp z (by simp [hz]))
     have N := hid (NEXT.out q left lv wr hv hR hk)
     have HT0 := hid hT
     have HG := hid hg
     have HJL := hid hjl
     have HOW := hid hown
     have hsw : w.heap.size <= wr.heap.size := hg.size
     have tb3 : decide (taken.length < 3) = true := by simp; omega
     clear hv hR hT hg HM hq hmd hpp hown hA hjl
     go_wp2_with (first
      | (go_at_call 213; (with_reducible refine MM.out.mono ?_); rintro e w6 ⟨rfl, hw6⟩; obtain rfl := hw6.symm)
      | (go_at_call 214; (with_reducible refine N.out.mono ?_); rintro e w7 ⟨rfl, lv7, hv7, hR7, hg7⟩; have hown7 := own_kept HOW.out hg7 hbw; have HX7 := hid (And.intro hv7 (And.intro hR7 (And.intro hg7 (HT0.out.grown hg7 (by simpa using fun h => hbt h.symm) (by omega))))); have hs7 : w.heap.size <= w7.heap.size := Nat.le_trans hsw hg7.size; clear hv7 hR7 hg7)
      | (at_builtin; refine wpList_append_texts rfl (.tmp 24) (.tmp 26) 190 rfl w.heap.size 9 i0 (.string ⟨#[]⟩) 16 Tryz.underlying190 hi hz0 hz1 hz2 rfl _ _ _ rfl (hown7.alloc _) (some ⟨w7.heap.size, 0, none⟩) 1 1 [.string (B q)] rfl rfl (at_one _ _ _) (fun h => nomatch h) (fun u hu => by rw [List.mem_singleton.1 hu]; rfl) ?c4 ?c5 ?c6 ?_)
      | fail)
     case c4 => unfold maxLen; omega
     case c5 => omega
     case c6 => rw [World.size_alloc]; omega
     intro v8 w8 hown8 hg8 ho8
     obtain ⟨hv7, hR7, hg7, hT7⟩ := HX7.out
     have lt7 : ∀ g, (Value.slice a taken.length cap).ownBlock = some g -> w.heap.size <= g /\ g < w7.heap.size := fun g h => hown7.lt g h
     have hx8 : w7.grownBy w8 (Value.slice a taken.length cap).ownBlock := grown_trans (World.grownBy_alloc w7 _ _) hg8
     have hF8 : FrameX w w8 [b, tb] := (HG.out.step hg7 (fun j hj => by cases hj; simp)).step hx8 (fun g h => .inl (lt7 g h).1)
     have nb : some b ≠ (Value.slice a taken.length cap).ownBlock := fun e => by have := (lt7 b e.symm).1; omega
     have nt : some tb ≠ (Value.slice a taken.length cap).ownBlock := fun e => by have := (lt7 tb e.symm).1; omega
     have nk : some k ≠ (Value.slice a taken.length cap).ownBlock := fun e => by have := (lt7 k e.symm).1; omega
     have hown9 : w8.ownsRow w.heap.size 9 1 v8 (taken ++ [q]).length ((taken ++ [q]).map strV) := by
      rw [List.length_append, List.map_append]; exact hown8
     have HQ := hid (And.intro hown9 (And.intro (hv7.grown hx8 nk) (And.intro (hR7.grown hx8 nb (by omega)) (And.intro (hT7.grown hx8 nt (by omega)) hF8))))
     have HL8 : Hid (slLen v8 = taken.length + 1) := hid (by obtain ⟨_, _, rfl, _⟩ := ownsRow_at hown8; rfl)
     clear hv7 hR7 hg7 hT7 lt7 hx8 hF8 nb nt nk hown8 hown9 hg8 ho8 hown7 HX7
     go_wp2_with fail
     go_roundw
     case rel =>
      obtain ⟨h1, h2, h3', h4, h5⟩ := HQ.out
      exact ⟨taken ++ [q], left, lv7, h1, by simp; omega, HJL.out, HPP.out, HE, h2, h3', h4, h5⟩
     case measure => rw [HL8.out]; show 3 - (taken.length + 1) < 3 - taken.length; omega
    | false =>
     rw [hq] at MM
     have hqf : seesF (fun p => madeB p 3 3 true) left = false := by rw [<- seesM_more]; exact hq
     have HE : Hid (ext3 3 ps = (taken, left)) := hid (by rw [HM.out, ext3_no hqf]; simp)
     have tb3 : decide (taken.length < 3) = true := by simp; omega
     clear hq hqf
     have JD := hid (refJoined_l taken a cap wr (by omega) (by omega) hA)
     have HT0 := hid hT
     have htr : tb < wr.heap.size := Nat.lt_of_lt_of_le htw hg.size
     have HX := hid (And.intro hv (And.intro hR hg))
     clear hv hR hT hg hown hA HM hpp
     go_wp2_with (first
      | (go_at_call 213; (with_reducible refine MM.out.mono ?_); rintro e w6 ⟨rfl, hw6⟩; obtain rfl := hw6.symm)
      | (go_at_call 235; (with_reducible refine JD.out.mono ?_); rintro e w7 ⟨rfl, hb7⟩; have hT7 := HT0.out.below hb7 htr; have c1 := (row_of hT7 1 _ rfl).1; have f1 := (row_of hT7 1 _ rfl).2; have HB7 := hid (And.intro hb7 hT7); clear hb7 hT7)
      | fail)
     go_ret
     obtain ⟨hv, hR, hg⟩ := HX.out
     obtain ⟨hb7, hT7⟩ := HB7.out
     have hgs := grownBy_set w7 tb 1 (.string (B (joinD taken)))
     have hg7 := hg.trans (FrameX.of_below hb7 _)
     rw [HL.out, HE.out]
     exact ⟨rfl, hg7.step hgs (fun j hj => by cases hj; simp), lv, (hv.below hb7).grown hgs (by simpa using hkt), (hR.below hb7 (by have := hg.size; omega)).grown hgs (by simpa using hbt) (by have := hg7.size; omega), hT7.set (j := 1) (by simp) _⟩
   ·have h30 : taken.length = 3 := by omega
    have HE : Hid (ext3 3 ps = (taken, left)) := hid (by rw [HM.out, h30]; simp [ext3])
    have tb3 : decide (taken.length < 3) = false := by simp; omega
    have h3z := hid h30
    clear h30
    have JD := hid (refJoined_l taken a cap wr (by omega) (by omega) hA)
    have HT0 := hid hT
    have htr : tb < wr.heap.size := Nat.lt_of_lt_of_le htw hg.size
    have HX := hid (And.intro hv (And.intro hR hg))
    clear hv hR hT hg hown hA HM hpp
    go_wp2_with (first
     | (go_at_call 213; (with_reducible refine MM.out.mono ?_); rintro e w6 ⟨rfl, hw6⟩; obtain rfl := hw6.symm)
     | (go_at_call 235; (with_reducible refine JD.out.mono ?_); rintro e w7 ⟨rfl, hb7⟩; have hT7 := HT0.out.below hb7 htr; have c1 := (row_of hT7 1 _ rfl).1; have f1 := (row_of hT7 1 _ rfl).2; have HB7 := hid (And.intro hb7 hT7); clear hb7 hT7)
     | fail)
    go_ret
    obtain ⟨hv, hR, hg⟩ := HX.out
    obtain ⟨hb7, hT7⟩ := HB7.out
    have hgs := grownBy_set w7 tb 1 (.string (B (joinD taken)))
    have hg7 := hg.trans (FrameX.of_below hb7 _)
    rw [HL.out, HE.out]
    exact ⟨rfl, hg7.step hgs (fun j hj => by cases hj; simp), lv, (hv.below hb7).grown hgs (by simpa using hkt), (hR.below hb7 (by have := hg.size; omega)).grown hgs (by simpa using hbt) (by have := hg7.size; omega), hT7.set (j := 1) (by simp) _⟩
end Go.Proofs.YtdhmpakhdhdebaaGreatDoor
namespace Go.Proofs.YtdhmpakhdhdebaaGreatDoor
open Go.Lib (hid)
open Go.RowKit
set_option maxRecDepth 100000
def privR (ps : List (List UInt8)) : Bool := !(ps == []) && ps.all fun q => madeB q 1 8 false
theorem both18 (p : List UInt8) (w : World) (hp : p.length <= 140737488351232) :
  Calls Tryz.prog 216 #[.string (B p), .int .i64 1, .int .i64 8] w fun e w' => e = .returned (.bool (madeB p 1 8 false)) /\ w' = w := both_l p 1 8 w hp (by omega) (by omega)
theorem ViewAt.at {w : World} {k o n cap : Nat} {xs : List (List UInt8)} (h : ViewAt w k (.slice (some ⟨k, o, none⟩) n cap) xs) : At w (some ⟨k, o, none⟩) (xs.map strV) := fun j hj => by
 obtain ⟨o', cap', he, _, hc⟩ := h
 injection he with h1 _ _
 injection h1 with h1
 injection h1 with _ h3
 subst h3
 refine ⟨k, o, rfl, ?_⟩
 rw [hc j (by simpa using hj)]
 simp
set_option maxHeartbeats 3200000 in
theorem rpriv_l (b tb k : Nat) (l0 l1 l2 l3 l4 l5 l6 : Value) (p : List UInt8) (ps : List (List UInt8)) (lv : Value) (w : World) (hv : ViewAt w k lv (p :: ps)) (hR : RowAt w b [lv]) (hT : RowAt w tb [l0, l1, l2, l3, l4, l5, l6])
  (hkt : k ≠ tb) (hbt : b ≠ tb) (hp : ∀ q ∈ ps, q.length <= 4194304) (hn : ps.length <= 4194305) (hj : (joinD (p :: ps)).length <= 16777216) :
  Calls Tryz.prog 218 #[.pointer (some ⟨b, 0, none⟩), .pointer (some ⟨tb, 0, none⟩)] w fun e w' => e = .returned (.bool (privR ps)) /\ FrameX w w' [tb] /\ RowAt w' tb [l0, l1, l2, l3, l4, l5, .string (B (joinD (p :: ps)))] := by
 have hbw : b < w.heap.size := World.block_lt_of_cell? _ _ (row_of hR 0 _ rfl).1
 have htw : tb < w.heap.size := World.block_lt_of_cell? _ _ (row_of hT 0 _ rfl).1
 have HV := hid hv
 have HR := hid hR
 have HT := hid hT
 obtain ⟨o, cap, rfl, hcc, hd, _⟩ := hv.cons
 have y0 := (row_of hR 0 _ rfl).1
 have JD := hid (refJoined_l (p :: ps) (some ⟨k, o, none⟩) cap w (by simp; omega) hj hv.at)
 have HP := hid hp
 rw [List.length_cons] at JD
 obtain ⟨nn, hnn⟩ : ∃ nn, ps.length + 1 = nn := ⟨_, rfl⟩
 rw [hnn] at JD HV HR y0
 have HNN := hid hnn
 have hnb : nn <= 4194306 := by omega
 clear hnn hcc hn
 generalize hjj : joinD (p :: ps) = jj at *
 clear hv hR hT hp hjj
 go_enter Tryz.func218, Tryz.ntmps218
 rcases ps with _ | ⟨q, r⟩
 ·have hn2 : (nn : Int) < 2 := by have := HNN.out; simp at this; omega
  go_wp2_with (go_at_call 235; (with_reducible refine JD.out.mono ?_); rintro e w1 ⟨rfl, hb1⟩; have hT1 := HT.out.below hb1 htw; have x6 := (row_of hT1 6 _ rfl).1; have f6 := (row_of hT1 6 _ rfl).2; have z0 := (row_of (HR.out.below hb1 hbw) 0 _ rfl).1; have HX := hid (And.intro hT1 hb1); clear hT1 hb1)
  go_ret
  obtain ⟨hT1, hb1⟩ := HX.out
  exact ⟨rfl, (FrameX.of_below hb1 [tb]).step (grownBy_set w1 tb 6 (.string (B jj))) (fun j h => by cases h; simp), hT1.set (j := 6) (by simp) _⟩
 ·have hn2 : ¬ ((nn : Int) < 2) := by have := HNN.out; simp at this; omega
  go_wp2_with (go_at_call 235; (with_reducible refine JD.out.mono ?_); rintro e w1 ⟨rfl, hb1⟩; have hT1 := HT.out.below hb1 htw; have x6 := (row_of hT1 6 _ rfl).1; have f6 := (row_of hT1 6 _ rfl).2; have hR1 := HR.out.below hb1 hbw; have z0 := (row_of hR1 0 _ rfl).1; have hgs := grownBy_set w1 tb 6 (.string (B jj)); have hl1 : b < w1.heap.size := (by have := hb1.size; omega); have HX := hid (And.intro (hT1.set (j := 6) (by simp) (.string (B jj))) (And.intro ((FrameX.of_below hb1 [tb]).step hgs (fun j h => by cases h; simp)) (And.intro ((HV.out.below hb1).grown hgs (by simpa using hkt)) (hR1.grown hgs (by simpa using hbt) hl1)))); clear hT1 hb1 hR1 hgs hl1)
  have HB : Hid (∀ z ∈ q :: r, ∀ u, Calls Tryz.prog 216 #[.string (B z), .int .i64 1, .int .i64 8] u fun e w' => e = .returned (.bool (madeB z 1 8 false)) /\ w' = u) := hid (fun z hz u => both18 z u (Nat.le_trans (HP.out z hz) (by omega)))
  have HPR : Hid (privR (q :: r) = (q :: r).all fun q => madeB q 1 8 false) := hid rfl
  have HNQ : Hid ((q :: r).length + 1 = nn) := HNN
  obtain ⟨ps, hps⟩ : ∃ ps, q :: r = ps := ⟨_, rfl⟩
  have HPQ : Hid (privR ps = privR (q :: r)) := hid (by rw [hps])
  rw [hps] at HB HPR HNQ HX
  clear hps HP
  obtain ⟨hTs, hFs, hvs, hRs⟩ := HX.out
  have z0 := (row_of hRs 0 _ rfl).1
  have hvc : ∀ i (h : i < ps.length), (w1.setCell ⟨tb, 6, none⟩ (.string (B jj))).cell? ⟨k, o + (i + 1), none⟩ = some (.string (B ps[i])) := fun i h => by
   have := hvs.at.get (j := i + 1) (by simpa using h)
   rw [this]
   simp [strV]
  have HVC := hid hvc
  have HX2 := hid (And.intro hTs hFs)
  generalize w1.setCell ⟨tb, 6, none⟩ (.string (B jj)) = w2 at *
  clear hTs hFs hvs hRs hvc HX HV HR HT JD HNN x6 f6
  go_loop [5] (fun i => ∃ j : Nat, j <= ps.length /\ i = .int .i64 (j + 1 : Nat) /\ Hid (privR ps = (ps.drop j).all fun q => madeB q 1 8 false)) (fun i => nn - (intOf i).toNat)
  case atStart => exact ⟨0, Nat.zero_le _, rfl, hid (by rw [HPR.out]; rfl)⟩
  case round =>
   obtain ⟨j, hj, rfl, HM⟩ := hrel
   have hnq := HNQ.out
   by_cases hlt : j < ps.length
   ·have hc := HVC.out j hlt
    have hst : (ps.drop j).all (fun q => madeB q 1 8 false) = (madeB ps[j] 1 8 false && (ps.drop (j + 1)).all fun q => madeB q 1 8 false) := by
     rw [List.drop_eq_getElem_cons hlt, List.all_cons]
    have BO := hid (HB.out ps[j] (List.getElem_mem ..) w2)
    obtain ⟨z, hz⟩ : ∃ z, ps[j] = z := ⟨_, rfl⟩
    rw [hz] at hc hst BO
    have hjn : j + 1 < nn := by omega
    have hjn2 : ((j : Int) + 1) < (nn : Int) := by omega
    have hjn3 : (0 : Int) <= (j : Int) + 1 := by omega
    have HZ := hid hz
    clear hz hnq
    cases hm : madeB z 1 8 false with
    | true =>
     have HE : Hid (privR ps = (ps.drop (j + 1)).all fun q => madeB q 1 8 false) := hid (by rw [HM.out, hst, hm, Bool.true_and])
     rw [hm] at BO
     clear hst hm HM
     go_wp2_with (go_at_call 216; (with_reducible refine BO.out.mono ?_); rintro e w3 ⟨rfl, hw3⟩; obtain rfl := hw3.symm)
     go_round
     case rel => exact ⟨j + 1, hlt, by go_num, HE⟩
     case measure => simp [intOf]; omega
    | false =>
     have HE : Hid (privR ps = false) := hid (by rw [HM.out, hst, hm, Bool.false_and])
     rw [hm] at BO
     clear hst hm HM
     go_wp2_with (go_at_call 216; (with_reducible refine BO.out.mono ?_); rintro e w3 ⟨rfl, hw3⟩; obtain rfl := hw3.symm)
     go_ret
     exact ⟨ret_bool (HE.out.symm.trans HPQ.out), HX2.out.2, HX2.out.1⟩
   ·obtain rfl : j = ps.length := by omega
    have HE : Hid (privR ps = true) := hid (by rw [HM.out, List.drop_length]; rfl)
    have hge : ¬ ((ps.length : Int) + 1 < (nn : Int)) := by omega
    clear HM hnq
    go_wp2_with fail
    go_ret
    exact ⟨ret_bool (HE.out.symm.trans HPQ.out), HX2.out.2, HX2.out.1⟩
end Go.Proofs.YtdhmpakhdhdebaaGreatDoor
