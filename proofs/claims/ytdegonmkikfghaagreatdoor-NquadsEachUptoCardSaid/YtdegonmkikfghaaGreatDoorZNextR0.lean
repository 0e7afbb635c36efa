/-
  The reference's way through a literal's end: plain laws. No program in sight. By an AI agent.
-/
import Derived.Test.YtdegonmkikfghaaGreatDoorZRefEsc1
import Derived.Test.YtdegonmkikfghaaGreatDoorZRefIri
import Derived.Test.YtdegonmkikfghaaGreatDoorZRefTag
import Derived.Test.YtdegonmkikfghaaGreatDoorZRdW1
namespace Go.Proofs.YtdegonmkikfghaaGreatDoor
open Lib (hid)
open Go.RowKit
set_option maxRecDepth 100000
theorem closeF_two {l : List UInt8} {j : Nat} (h : j + 1 < l.length) (h92 : l.getD j 0 = 92) (hn : ¬ (l.getD (j + 1) 0 = 10 \/ l.getD (j + 1) 0 = 13)) : closeF l j false = closeF l (j + 2) false := by
 rw [closeF_slash (by omega) h92, closeF_behind h hn]
theorem closeF_one {l : List UInt8} {j : Nat} (h : j < l.length) (h92 : l.getD j 0 = 92) (hn : l.length <= j + 1 \/ (l.getD (j + 1) 0 = 10 \/ l.getD (j + 1) 0 = 13)) : closeF l j false = closeF l (j + 1) false := by
 rw [closeF_slash h h92]
 by_cases he : l.length <= j + 1
 ·rw [closeF_end he, closeF_end he]
 ·rcases hn with hn | hn
  ·exact absurd hn he
  ·rw [closeF_line (by omega) hn, closeF_line (by omega) hn]
end Go.Proofs.YtdegonmkikfghaaGreatDoor
namespace Go.Proofs.YtdegonmkikfghaaGreatDoor
open Lib (hid)
open Go.RowKit
set_option maxRecDepth 100000
def cutV : (List UInt8 × Nat) ⊕ (Nat × Int) -> Value
 | .inl (t, n) => .tuple #[.string (B t), .int .i64 (n : Int), .agg #[.int .i64 0, .int .i64 0]]
 | .inr (p, e) => .tuple #[.string ⟨#[]⟩, .int .i64 0, .agg #[.int .i64 (p : Int), .int .i64 e]]
theorem flt_new (w : World) : RowAt (w.alloc (.cells #[.int .i64 0, .int .i64 0] 42)) w.heap.size [.int .i64 0, .int .i64 0] := rowAt_of_heap (L := [.int .i64 0, .int .i64 0]) (t := 42) (heap_alloc_new _ _)
theorem refUnesc_bad {way : Int} {l : List UInt8} {p : Nat} {e : Int} (h : unescF way l 0 = .inr (p, e)) (hl : l.length <= 16777216) (w : World) :
  Calls Tryz.prog 171 #[.string (B l), .int .i64 way] w fun x w' => x = .returned (.tuple #[.string ⟨#[]⟩, .agg #[.int .i64 (p : Int), .int .i64 e]]) /\ Below w.heap.size w w' := by
 have := refUnesc_l way l w hl
 rw [h] at this
 exact this
theorem refUnesc_ok {way : Int} {l t : List UInt8} (h : unescF way l 0 = .inl t) (hl : l.length <= 16777216) (w : World) :
  Calls Tryz.prog 171 #[.string (B l), .int .i64 way] w fun x w' => x = .returned (.tuple #[.string (B t), .agg #[.int .i64 0, .int .i64 0]]) /\ Below w.heap.size w w' := by
 have := refUnesc_l way l w hl
 rw [h] at this
 exact this
theorem byte_nei {c d : UInt8} (h : c ≠ d) : ((c.toNat : Int) != (d.toNat : Int)) = true := by rw [bne, byte_ne h]; rfl
theorem byte_eqi {c d : UInt8} (h : c = d) : ((c.toNat : Int) != (d.toNat : Int)) = false := by rw [bne, byte_eq h]; rfl
set_option maxHeartbeats 6400000 in
theorem refIri_l (l : List UInt8) (i : Nat) (w : World) (hl : l.length <= 4194304) (hi : i <= l.length) :
  Calls Tryz.prog 127 #[.string (B l), .int .i64 (i : Int)] w fun e w' => e = .returned (cutV (iriAt l i)) /\ Below w.heap.size w w' := by
 have F0 := hid (flt_new w)
 have B0 : Hid (Below w.heap.size w (w.alloc (.cells #[.int .i64 0, .int .i64 0] 42))) := hid ((Below.refl _ _).alloc (Nat.le_refl _) _)
 have i0 : 0 <= (i : Int) := by omega
 by_cases hend : l.length <= i
 ·have q14 : decide ((l.length : Int) <= (i : Int)) = true := decide_eq_true (by omega)
  have HE : Hid (iriAt l i = .inr (i, 90)) := hid (by unfold iriAt; rw [if_pos (by rw [show l.getD i 0 = 0 by simp [List.getD, hend]]; decide)])
  obtain ⟨c0, c1, f0, f1, hg⟩ := row_two F0.out
  have HB := B0
  go_enter Tryz.func127, Tryz.ntmps127
  go_wp2_with fail
  refine bodyPost_ret (v := .tuple #[.string ⟨#[]⟩, .int .i64 0, .agg #[.int .i64 (i : Int), .int .i64 90]]) (by simp [results, Tryz.results127, go_sem]) rfl ?_
  rw [HE.out]
  exact ⟨rfl, (Below.refl _ _).alloc (Nat.le_refl _) _⟩
 have hlt : i < l.length := by omega
 have q14 : decide ((l.length : Int) <= (i : Int)) = false := decide_eq_false (by omega)
 have i1 : (i : Int) < (l.length : Int) := by omega
 have hgd : l.getD i 0 = l[i] := by simp [List.getD, hlt]
 by_cases h60 : l[i] = 60
 case neg =>
  have q19 : ((l[i].toNat : Int) != 60) = true := byte_nei (d := 60) h60
  have HE : Hid (iriAt l i = .inr (i, 90)) := hid (by unfold iriAt; rw [if_pos (by rw [hgd]; exact h60)])
  obtain ⟨c0, c1, f0, f1, hg⟩ := row_two F0.out
  have HB := B0
  clear h60 hgd hend
  go_enter Tryz.func127, Tryz.ntmps127
  go_wp2_with fail
  refine bodyPost_ret (v := .tuple #[.string ⟨#[]⟩, .int .i64 0, .agg #[.int .i64 (i : Int), .int .i64 90]]) (by simp [results, Tryz.results127, go_sem]) rfl ?_
  rw [HE.out]
  exact ⟨rfl, (Below.refl _ _).alloc (Nat.le_refl _) _⟩
 have q19 : ((l[i].toNat : Int) != 60) = false := byte_eqi (d := 60) h60
 have HX : Hid (iriAt l i = if l.length <= gtF l (i + 1) then .inr (l.length, 90) else match unescF 2 (cutF l (i + 1) (gtF l (i + 1))) 0 with
  | .inr (p, e) => .inr (i + 1 + p, e)
  | .inl t => if iriN t ≠ 0 then .inr (i, iriN t) else .inl (t, gtF l (i + 1) + 1)) := hid (by unfold iriAt; rw [if_neg (by rw [hgd, h60]; simp)]; rfl)
 clear h60 hgd hend
 go_enter Tryz.func127, Tryz.ntmps127
 go_wp2_with fail
 go_loopw [7] (fun z wr => ∃ j : Nat, z = .int .i64 j /\ i + 1 <= j /\ j <= l.length /\ Hid (gtF l (i + 1) = gtF l j) /\ Hid (RowAt wr w.heap.size [.int .i64 0, .int .i64 0]) /\ Hid (Below w.heap.size w wr)) (fun z _ => l.length - (intOf z).toNat)
 case atStart => exact ⟨i + 1, by go_num, by omega, hlt, hid rfl, F0, B0⟩
 case round =>
  obtain ⟨j, rfl, hij, hj, HG, HF, HB⟩ := hrel
  clear F0 B0
  have j0 : 0 <= (j : Int) := by omega
  by_cases hje : j = l.length
  ·have q28 : decide ((j : Int) < (l.length : Int)) = false := decide_eq_false (by omega)
   have q40 : ((j : Int) == (l.length : Int)) = true := beq_iff_eq.2 (by omega)
   have HE : Hid (iriAt l i = .inr (j, 90)) := hid (by rw [HX.out, HG.out, gtF_end (by omega), if_pos (by omega), hje])
   obtain ⟨c0, c1, f0, f1, hg⟩ := row_two HF.out
   clear HX HG hje
   go_wp2_with fail
   refine bodyPost_ret (v := .tuple #[.string ⟨#[]⟩, .int .i64 0, .agg #[.int .i64 (j : Int), .int .i64 90]]) (by simp [results, Tryz.results127, go_sem, c0, c1]) rfl ?_
   rw [HE.out]
   exact ⟨rfl, (HB.out.setCell (p := ⟨w.heap.size, 0, none⟩) (Nat.le_refl _) _).setCell (p := ⟨w.heap.size, 1, none⟩) (Nat.le_refl _) _⟩
  have hjl : j < l.length := by omega
  have j1 : (j : Int) < (l.length : Int) := by omega
  have q28 : decide ((j : Int) < (l.length : Int)) = true := decide_eq_true (by omega)
  have hgj : l.getD j 0 = l[j] := by simp [List.getD, hjl]
  by_cases h62 : l[j] = 62
  case neg =>
   have q33 : ((l[j].toNat : Int) != 62) = true := byte_nei (d := 62) h62
   have HG2 : Hid (gtF l (i + 1) = gtF l (j + 1)) := hid (by rw [HG.out, gtF_go hjl (by rw [hgj]; exact h62)])
   clear h62 hgj hje HG HX
   go_wp2_with fail
   go_roundw
   case rel => exact ⟨j + 1, by go_num, by omega, by omega, HG2, HF, HB⟩
   case measure => simp [intOf]; omega
  have q33 : ((l[j].toNat : Int) != 62) = false := byte_eqi (d := 62) h62
  have q40 : ((j : Int) == (l.length : Int)) = false := beq_eq_false_iff_ne.2 (by omega)
  have HX2 : Hid (iriAt l i = match unescF 2 (cutF l (i + 1) j) 0 with
   | .inr (p, e) => .inr (i + 1 + p, e)
   | .inl t => if iriN t ≠ 0 then .inr (i, iriN t) else .inl (t, j + 1)) := hid (by rw [HX.out, HG.out, gtF_hit hjl (by rw [hgj]; exact h62), if_neg (by omega)])
  have hcl := cutF_len l (i + 1) j
  have HCUT : Hid ((l.drop (i + 1)).take (j - (i + 1)) = cutF l (i + 1) j) := hid rfl
  have s0 : 0 <= (i : Int) + 1 := by omega
  have s1 : (i : Int) + 1 <= (j : Int) := by omega
  have s2 : (j : Int) <= (l.length : Int) := by omega
  clear h62 hgj hje HG HX
  cases hq : unescF 2 (cutF l (i + 1) j) 0 with
  | inr f =>
   obtain ⟨p, e⟩ := f
   have hp := unesc_at 2 _ _ 0 p e (Nat.le_refl _) hq
   have UN := hid (fun u => refUnesc_bad hq (by omega) u)
   have hpl : p <= l.length := by omega
   have e0 : (e != 0) = true := bne_iff_ne.2 (by rcases hp.2 with h | h <;> rw [h] <;> decide)
   have HE : Hid (iriAt l i = .inr (i + 1 + p, e)) := hid (by rw [HX2.out, hq])
   clear hq hp HX2 hcl
   go_wp2_with (go_at_call 171; rw [HCUT.out]; (with_reducible refine (UN.out _).mono ?_); rintro e w2 ⟨rfl, hb⟩; have HB2 := hid (HB.out.trans (hb.mono HB.out.size)); obtain ⟨c0, c1, f0, f1, hg⟩ := row_two (rowAt_below HF.out hb); clear hb)
   go_region
   all_goals
    go_wp2_with fail
    refine bodyPost_ret (v := .tuple #[.string ⟨#[]⟩, .int .i64 0, .agg #[.int .i64 ((i : Int) + 1 + (p : Int)), .int .i64 e]]) (by simp [results, Tryz.results127, go_sem, c0, c1, hg]) rfl ?_
    rw [HE.out]
    exact ⟨rfl, (((HB2.out.setCell (p := ⟨w.heap.size, 0, none⟩) (Nat.le_refl _) _).setCell (p := ⟨w.heap.size, 1, none⟩) (Nat.le_refl _) _).alloc (by simpa using HB2.out.size) _).drew⟩
  | inl t =>
   have hu := unesc_len 2 _ _ 0 t (Nat.le_refl _) hq
   have UN := hid (fun u => refUnesc_ok hq (by omega) u)
   have IR := hid (fun u => refIriCheck_l t u (by omega))
   obtain ⟨n, hn⟩ : ∃ n, iriN t = n := ⟨_, rfl⟩
   rw [hq] at HX2
   simp only [hn] at HX2 IR
   by_cases h0 : n = 0
   ·have q0 : (n != 0) = false := by rw [h0]; rfl
    have HE : Hid (iriAt l i = .inl (t, j + 1)) := hid (by rw [HX2.out, if_neg (fun h => h h0)])
    clear hq hu hn h0 HX2 hcl
    go_wp2_with (first
     | (go_at_call 171; rw [HCUT.out]; (with_reducible refine (UN.out _).mono ?_); rintro e w2 ⟨rfl, hb0⟩; have hb := hb0.alloc hb0.size (.cells #[.int .i64 0, .int .i64 0] 125); clear hb0; have HB2 := hid (HB.out.trans (hb.mono HB.out.size)); have HF2 := hid (rowAt_below HF.out hb); have hs2 := HB2.out.size; clear hb)
     | (go_at_call 92; (with_reducible refine (IR.out _).mono ?_); rintro e w3 ⟨rfl, hb⟩; have HB3 := hid (HB2.out.trans (hb.mono HB2.out.size)); obtain ⟨c0, c1, f0, f1, hg⟩ := row_two (rowAt_below HF2.out hb); clear hb))
    refine bodyPost_ret (v := .tuple #[.string (B t), .int .i64 ((j : Int) + 1), .agg #[.int .i64 0, .int .i64 0]]) (by simp [results, Tryz.results127, go_sem, c0, c1]) rfl ?_
    rw [HE.out]
    exact ⟨rfl, (HB3.out.setCell (p := ⟨w.heap.size, 0, none⟩) (Nat.le_refl _) _).setCell (p := ⟨w.heap.size, 1, none⟩) (Nat.le_refl _) _⟩
   ·have q0 : (n != 0) = true := bne_iff_ne.2 h0
    have HE : Hid (iriAt l i = .inr (i, n)) := hid (by rw [HX2.out, if_pos h0])
    clear hq hu hn h0 HX2 hcl
    go_wp2_with (first
     | (go_at_call 171; rw [HCUT.out]; (with_reducible refine (UN.out _).mono ?_); rintro e w2 ⟨rfl, hb0⟩; have hb := hb0.alloc hb0.size (.cells #[.int .i64 0, .int .i64 0] 125); clear hb0; have HB2 := hid (HB.out.trans (hb.mono HB.out.size)); have HF2 := hid (rowAt_below HF.out hb); have hs2 := HB2.out.size; clear hb)
     | (go_at_call 92; (with_reducible refine (IR.out _).mono ?_); rintro e w3 ⟨rfl, hb⟩; have HB3 := hid (HB2.out.trans (hb.mono HB2.out.size)); obtain ⟨c0, c1, f0, f1, hg⟩ := row_two (rowAt_below HF2.out hb); clear hb))
    refine bodyPost_ret (v := .tuple #[.string ⟨#[]⟩, .int .i64 0, .agg #[.int .i64 (i : Int), .int .i64 n]]) (by simp [results, Tryz.results127, go_sem, c0, c1]) rfl ?_
    rw [HE.out]
    exact ⟨rfl, (HB3.out.setCell (p := ⟨w.heap.size, 0, none⟩) (Nat.le_refl _) _).setCell (p := ⟨w.heap.size, 1, none⟩) (Nat.le_refl _) _⟩
theorem ref07_alpha (c : UInt8) : alphaC c = (decide (97 <= c.toNat /\ c.toNat <= 122) || decide (65 <= c.toNat /\ c.toNat <= 90)) := by
 have key : ∀ n < 256, alphaC (UInt8.ofNat n) = (decide (97 <= (UInt8.ofNat n).toNat /\ (UInt8.ofNat n).toNat <= 122) || decide (65 <= (UInt8.ofNat n).toNat /\ (UInt8.ofNat n).toNat <= 90)) := by decide +kernel
 have h := key c.toNat (UInt8.toNat_lt c)
 rwa [UInt8.ofNat_toNat] at h
theorem ref07Letter_l (c : UInt8) (w : World) : Calls Tryz.prog 224 #[.int .u8 (c.toNat : Int)] w fun e w' => e = .returned (.bool (alphaC c)) /\ w' = w := by
 have hc := c.toNat_lt
 have hk : alphaC c = (decide (97 <= c.toNat /\ c.toNat <= 122) || decide (65 <= c.toNat /\ c.toNat <= 90)) := ref07_alpha c
 by_cases a : 97 <= c.toNat
 ·by_cases b : c.toNat <= 122
  ·have HE : Hid (alphaC c = true) := hid (by rw [hk]; simp; omega)
   have q1 : decide (97 <= (c.toNat : Int)) = true := decide_eq_true (by omega)
   have q2 : decide ((c.toNat : Int) <= 122) = true := decide_eq_true (by omega)
   clear hk
   go_enter Tryz.func224, Tryz.ntmps224
   go_wp2_with fail
   go_ret
   exact ⟨ret_bool HE.out.symm, rfl⟩
  ·have HE : Hid (alphaC c = false) := hid (by rw [hk]; simp; omega)
   have q1 : decide (97 <= (c.toNat : Int)) = true := decide_eq_true (by omega)
   have q2 : decide ((c.toNat : Int) <= 122) = false := decide_eq_false (by omega)
   have q3 : decide (65 <= (c.toNat : Int)) = true := decide_eq_true (by omega)
   have q4 : decide ((c.toNat : Int) <= 90) = false := decide_eq_false (by omega)
   clear hk
   go_enter Tryz.func224, Tryz.ntmps224
   go_wp2_with fail
   go_ret
   exact ⟨ret_bool HE.out.symm, rfl⟩
 ·by_cases b : 65 <= c.toNat
  ·by_cases d : c.toNat <= 90
   ·have HE : Hid (alphaC c = true) := hid (by rw [hk]; simp; omega)
    have q1 : decide (97 <= (c.toNat : Int)) = false := decide_eq_false (by omega)
    have q3 : decide (65 <= (c.toNat : Int)) = true := decide_eq_true (by omega)
    have q4 : decide ((c.toNat : Int) <= 90) = true := decide_eq_true (by omega)
    clear hk
    go_enter Tryz.func224, Tryz.ntmps224
    go_wp2_with fail
    go_ret
    exact ⟨ret_bool HE.out.symm, rfl⟩
   ·have HE : Hid (alphaC c = false) := hid (by rw [hk]; simp; omega)
    have q1 : decide (97 <= (c.toNat : Int)) = false := decide_eq_false (by omega)
    have q3 : decide (65 <= (c.toNat : Int)) = true := decide_eq_true (by omega)
    have q4 : decide ((c.toNat : Int) <= 90) = false := decide_eq_false (by omega)
    clear hk
    go_enter Tryz.func224, Tryz.ntmps224
    go_wp2_with fail
    go_ret
    exact ⟨ret_bool HE.out.symm, rfl⟩
  ·have HE : Hid (alphaC c = false) := hid (by rw [hk]; simp; omega)
   have q1 : decide (97 <= (c.toNat : Int)) = false := decide_eq_false (by omega)
   have q3 : decide (65 <= (c.toNat : Int)) = false := decide_eq_false (by omega)
   clear hk
   go_enter Tryz.func224, Tryz.ntmps224
   go_wp2_with fail
   go_ret
   exact ⟨ret_bool HE.out.symm, rfl⟩
def closeV : Nat ⊕ (Nat × Int) -> Value
 | .inl n => .tuple #[.int .i64 (n : Int), .agg #[.int .i64 0, .int .i64 0]]
 | .inr (p, e) => .tuple #[.int .i64 0, .agg #[.int .i64 (p : Int), .int .i64 e]]
set_option maxHeartbeats 6400000 in
theorem refQuoted_l (l : List UInt8) (i : Nat) (w : World) (hl : l.length <= 4194304) (hi : i < l.length) :
  Calls Tryz.prog 172 #[.string (B l), .int .i64 (i : Int)] w fun e w' => e = .returned (closeV (closeF l (i + 1) false)) /\ Below w.heap.size w w' := by
 have F0 := hid (flt_new w)
 have B0 : Hid (Below w.heap.size w (w.alloc (.cells #[.int .i64 0, .int .i64 0] 42))) := hid ((Below.refl _ _).alloc (Nat.le_refl _) _)
 go_enter Tryz.func172, Tryz.ntmps172
 go_wp2_with fail
 go_loopw [6] (fun z wr => ∃ j : Nat, z = .int .i64 j /\ j <= l.length /\ Hid (closeF l (i + 1) false = closeF l j false) /\ Hid (RowAt wr w.heap.size [.int .i64 0, .int .i64 0]) /\ Hid (Below w.heap.size w wr)) (fun z _ => l.length - (intOf z).toNat)
 case atStart => exact ⟨i + 1, by go_num, hi, hid rfl, F0, B0⟩
 case round =>
  obtain ⟨j, rfl, hj, HC, HF, HB⟩ := hrel
  clear F0 B0
  have j0 : 0 <= (j : Int) := by omega
  by_cases hje : l.length <= j
  ·have q11 : decide ((j : Int) < (l.length : Int)) = false := decide_eq_false (by omega)
   have q11' : decide (j < l.length) = false := decide_eq_false (by omega)
   have HE : Hid (closeF l (i + 1) false = .inr (l.length, 90)) := hid (by rw [HC.out, closeF_end hje])
   obtain ⟨c0, c1, f0, f1, hg⟩ := row_two HF.out
   clear HC hje
   go_wp2_with fail
   refine bodyPost_ret (v := .tuple #[.int .i64 0, .agg #[.int .i64 (l.length : Int), .int .i64 90]]) (by simp [results, Tryz.results172, go_sem, c0, c1]) rfl ?_
   rw [HE.out]
   exact ⟨rfl, (HB.out.setCell (p := ⟨w.heap.size, 0, none⟩) (Nat.le_refl _) _).setCell (p := ⟨w.heap.size, 1, none⟩) (Nat.le_refl _) _⟩
  have hjl : j < l.length := by omega
  have j1 : (j : Int) < (l.length : Int) := by omega
  have q11 : decide ((j : Int) < (l.length : Int)) = true := decide_eq_true (by omega)
  have hgj : l.getD j 0 = l[j] := by simp [List.getD, hjl]
  by_cases h92 : l[j] = 92
  ·have q18 : ((l[j].toNat : Int) == 92) = true := byte_eq (d := 92) h92
   have q45 : ((l[j].toNat : Int) == 10) = false := byte_ne (d := 10) (by rw [h92]; decide)
   have q50 : ((l[j].toNat : Int) == 13) = false := byte_ne (d := 13) (by rw [h92]; decide)
   have q57 : ((l[j].toNat : Int) == 34) = false := byte_ne (d := 34) (by rw [h92]; decide)
   by_cases hj2 : j + 1 < l.length
   ·have q24 : decide ((j : Int) + 1 < (l.length : Int)) = true := decide_eq_true (by omega)
    have k0 : 0 <= (j : Int) + 1 := by omega
    have k1 : (j : Int) + 1 < (l.length : Int) := by omega
    have hgk : l.getD (j + 1) 0 = l[j + 1] := by simp [List.getD, hj2]
    by_cases h10 : l[j + 1] = 10
    ·have q31 : ((l[j + 1].toNat : Int) != 10) = false := byte_eqi (d := 10) h10
     have HN : Hid (closeF l (i + 1) false = closeF l (j + 1) false) := hid (by rw [HC.out, closeF_one hjl (by rw [hgj]; exact h92) (.inr (.inl (by rw [hgk]; exact h10)))])
     clear h92 h10 hgj hgk HC hje
     go_wp2_with fail
     go_roundw
     case rel => exact ⟨j + 1, by go_num, by omega, HN, HF, HB⟩
     case measure => simp [intOf]; omega
    ·have q31 : ((l[j + 1].toNat : Int) != 10) = true := byte_nei (d := 10) h10
     by_cases h13 : l[j + 1] = 13
     ·have q38 : ((l[j + 1].toNat : Int) != 13) = false := byte_eqi (d := 13) h13
      have HN : Hid (closeF l (i + 1) false = closeF l (j + 1) false) := hid (by rw [HC.out, closeF_one hjl (by rw [hgj]; exact h92) (.inr (.inr (by rw [hgk]; exact h13)))])
      clear h92 h10 h13 hgj hgk HC hje
      go_wp2_with fail
      go_roundw
      case rel => exact ⟨j + 1, by go_num, by omega, HN, HF, HB⟩
      case measure => simp [intOf]; omega
     ·have q38 : ((l[j + 1].toNat : Int) != 13) = true := byte_nei (d := 13) h13
      have HN : Hid (closeF l (i + 1) false = closeF l (j + 2) false) := hid (by rw [HC.out, closeF_two hj2 (by rw [hgj]; exact h92) (by rw [hgk]; exact fun h => h.elim h10 h13)])
      clear h92 h10 h13 hgj hgk HC hje
      go_wp2_with fail
      go_roundw
      case rel => exact ⟨j + 2, by go_num, by omega, HN, HF, HB⟩
      case measure => simp [intOf]; omega
   ·have q24 : decide ((j : Int) + 1 < (l.length : Int)) = false := decide_eq_false (by omega)
    have HN : Hid (closeF l (i + 1) false = closeF l (j + 1) false) := hid (by rw [HC.out, closeF_one hjl (by rw [hgj]; exact h92) (.inl (by omega))])
    clear h92 hgj HC hje
    go_wp2_with fail
    go_roundw
    case rel => exact ⟨j + 1, by go_num, by omega, HN, HF, HB⟩
    case measure => simp [intOf]; omega
  ·have q18 : ((l[j].toNat : Int) == 92) = false := byte_ne (d := 92) h92
   by_cases h10 : l[j] = 10
   ·have q45 : ((l[j].toNat : Int) == 10) = true := byte_eq (d := 10) h10
    have HE : Hid (closeF l (i + 1) false = .inr (j, 90)) := hid (by rw [HC.out, closeF_line hjl (.inl (by rw [hgj]; exact h10))])
    obtain ⟨c0, c1, f0, f1, hg⟩ := row_two HF.out
    clear h92 h10 hgj HC hje
    go_wp2_with fail
    refine bodyPost_ret (v := .tuple #[.int .i64 0, .agg #[.int .i64 (j : Int), .int .i64 90]]) (by simp [results, Tryz.results172, go_sem, c0, c1]) rfl ?_
    rw [HE.out]
    exact ⟨rfl, (HB.out.setCell (p := ⟨w.heap.size, 0, none⟩) (Nat.le_refl _) _).setCell (p := ⟨w.heap.size, 1, none⟩) (Nat.le_refl _) _⟩
   ·have q45 : ((l[j].toNat : Int) == 10) = false := byte_ne (d := 10) h10
    by_cases h13 : l[j] = 13
    ·have q50 : ((l[j].toNat : Int) == 13) = true := byte_eq (d := 13) h13
     have HE : Hid (closeF l (i + 1) false = .inr (j, 90)) := hid (by rw [HC.out, closeF_line hjl (.inr (by rw [hgj]; exact h13))])
     obtain ⟨c0, c1, f0, f1, hg⟩ := row_two HF.out
     clear h92 h10 h13 hgj HC hje
     go_wp2_with fail
     refine bodyPost_ret (v := .tuple #[.int .i64 0, .agg #[.int .i64 (j : Int), .int .i64 90]]) (by simp [results, Tryz.results172, go_sem, c0, c1]) rfl ?_
     rw [HE.out]
     exact ⟨rfl, (HB.out.setCell (p := ⟨w.heap.size, 0, none⟩) (Nat.le_refl _) _).setCell (p := ⟨w.heap.size, 1, none⟩) (Nat.le_refl _) _⟩
    ·have q50 : ((l[j].toNat : Int) == 13) = false := byte_ne (d := 13) h13
     by_cases h34 : l[j] = 34
     ·have q57 : ((l[j].toNat : Int) == 34) = true := byte_eq (d := 34) h34
      have HE : Hid (closeF l (i + 1) false = .inl j) := hid (by rw [HC.out, closeF_quote hjl (by rw [hgj]; exact h34)])
      obtain ⟨c0, c1, f0, f1, hg⟩ := row_two HF.out
      clear h92 h10 h13 h34 hgj HC hje
      go_wp2_with fail
      refine bodyPost_ret (v := .tuple #[.int .i64 (j : Int), .agg #[.int .i64 0, .int .i64 0]]) (by simp [results, Tryz.results172, go_sem, c0, c1]) rfl ?_
      rw [HE.out]
      exact ⟨rfl, (HB.out.setCell (p := ⟨w.heap.size, 0, none⟩) (Nat.le_refl _) _).setCell (p := ⟨w.heap.size, 1, none⟩) (Nat.le_refl _) _⟩
     ·have q57 : ((l[j].toNat : Int) == 34) = false := byte_ne (d := 34) h34
      have HN : Hid (closeF l (i + 1) false = closeF l (j + 1) false) := hid (by rw [HC.out, closeF_go hjl (by rw [hgj]; exact fun h => h.elim h10 h13) (by rw [hgj]; exact h92) (by rw [hgj]; exact h34)])
      clear h92 h10 h13 h34 hgj HC hje
      go_wp2_with fail
      go_roundw
      case rel => exact ⟨j + 1, by go_num, by omega, HN, HF, HB⟩
      case measure => simp [intOf]; omega
end Go.Proofs.YtdegonmkikfghaaGreatDoor
namespace Go.Proofs.YtdegonmkikfghaaGreatDoor
open Lib (hid)
open Go.RowKit
set_option maxRecDepth 100000
set_option maxHeartbeats 1600000 in
theorem refBlanks_l (l : List UInt8) (i : Nat) (w : World) (hi : i <= l.length) (hl : l.length <= 16777216) :
  Calls Tryz.prog 62 #[.string (B l), .int .i64 (i : Int)] w fun e w' => e = .returned (.int .i64 (blkF l i : Int)) /\ w' = w := by
 go_enter Tryz.func62, Tryz.ntmps62
 go_wp2_with fail
 go_loopw [1] (fun z wr => ∃ j : Nat, z = .int .i64 j /\ j <= l.length /\ Hid (blkF l i = blkF l j) /\ Hid (wr = w)) (fun z _ => l.length - (intOf z).toNat)
 case atStart => exact ⟨i, rfl, hi, hid rfl, hid rfl⟩
 case round =>
  obtain ⟨j, rfl, hj, HS, HW⟩ := hrel
  by_cases hlt : j < l.length
  ·have e1' : decide ((j : Int) < (l.length : Int)) = true := decide_eq_true (by omega)
   have j0 : 0 <= (j : Int) := by omega
   have j1 : (j : Int) < (l.length : Int) := by omega
   have hgj : l.getD j 0 = l[j] := by simp [List.getD, hlt]
   by_cases h32 : l[j] = 32
   ·have e2 : ((l[j].toNat : Int) == 32) = true := byte_eq (d := 32) h32
    have HE : Hid (blkF l i = blkF l (j + 1)) := hid (by rw [HS.out, blkF_go hlt (by rw [hgj]; exact .inl h32)])
    clear h32 HS hgj
    go_wp2_with fail
    go_roundw
    case rel => exact ⟨j + 1, by go_num, hlt, HE, HW⟩
    case measure => simp [intOf]; omega
   ·have e2 : ((l[j].toNat : Int) == 32) = false := byte_ne (d := 32) h32
    by_cases h9 : l[j] = 9
    ·have e3 : ((l[j].toNat : Int) == 9) = true := byte_eq (d := 9) h9
     have HE : Hid (blkF l i = blkF l (j + 1)) := hid (by rw [HS.out, blkF_go hlt (by rw [hgj]; exact .inr h9)])
     clear h32 h9 HS hgj
     go_wp2_with fail
     go_roundw
     case rel => exact ⟨j + 1, by go_num, hlt, HE, HW⟩
     case measure => simp [intOf]; omega
    ·have e3 : ((l[j].toNat : Int) == 9) = false := byte_ne (d := 9) h9
     have HE : Hid (blkF l i = j) := hid (by rw [HS.out, blkF_stop hlt (by rw [hgj]; exact fun h => h.elim h32 h9)])
     clear h32 h9 HS hgj
     go_wp2_with fail
     go_ret
     rw [HE.out]
     exact ⟨rfl, HW.out⟩
  ·have e1' : decide ((j : Int) < (l.length : Int)) = false := decide_eq_false (by omega)
   have HE : Hid (blkF l i = j) := hid (by rw [HS.out, blkF_end (by omega)])
   clear HS
   go_wp2_with fail
   go_ret
   rw [HE.out]
   exact ⟨rfl, HW.out⟩
theorem seesB_step {l t : List UInt8} {i k : Nat} (hk : k < t.length) (hlt : i < l.length) (hc : l[i] ≠ t[k]) : seesB l i (t.drop k) = seesB l i (t.drop (k + 1)) := by
 have hg : l.getD i 0 = l[i] := by simp [List.getD, hlt]
 unfold seesB
 rw [List.drop_eq_getElem_cons hk, List.contains_cons, hg, beq_eq_false_iff_ne.2 hc, Bool.false_or]
theorem seesB_hit {l t : List UInt8} {i k : Nat} (hk : k < t.length) (hlt : i < l.length) (hc : l[i] = t[k]) : seesB l i (t.drop k) = true := by
 have hg : l.getD i 0 = l[i] := by simp [List.getD, hlt]
 unfold seesB
 rw [List.drop_eq_getElem_cons hk, List.contains_cons, hg, hc, decide_eq_true hlt]
 simp
set_option maxHeartbeats 1600000 in
theorem refStarts_l (l t : List UInt8) (i : Nat) (w : World) (hi : i <= l.length) (_hl : l.length <= 16777216) (ht : t.length <= 100) :
  Calls Tryz.prog 89 #[.string (B l), .int .i64 (i : Int), .string (B t)] w fun e w' => e = .returned (.bool (seesB l i t)) /\ Below w.heap.size w w' := by
 have i0 : 0 <= (i : Int) := by omega
 go_enter Tryz.func89, Tryz.ntmps89
 go_wp2_with fail
 go_loopw [7] (fun z wr => ∃ k : Nat, z = .int .i64 k /\ k <= t.length /\ Hid (seesB l i t = seesB l i (t.drop k)) /\ Hid (Below w.heap.size w wr)) (fun z _ => t.length - (intOf z).toNat)
 case atStart => exact ⟨0, rfl, Nat.zero_le _, hid (by rw [List.drop_zero]), hid (Below.refl _ _)⟩
 case round =>
  obtain ⟨k, rfl, hk, HS, HW⟩ := hrel
  have k0 : 0 <= (k : Int) := by omega
  by_cases hkt : k < t.length
  ·have e1 : decide ((k : Int) < (t.length : Int)) = true := decide_eq_true (by omega)
   have e1n : decide (k < t.length) = true := decide_eq_true hkt
   have k1 : (k : Int) < (t.length : Int) := by omega
   by_cases hlt : i < l.length
   ·have e2 : decide ((i : Int) < (l.length : Int)) = true := decide_eq_true (by omega)
    have e2n : decide (i < l.length) = true := decide_eq_true hlt
    have i1 : (i : Int) < (l.length : Int) := by omega
    by_cases hc : l[i] = t[k]
    ·have e3 : ((l[i].toNat : Int) == (t[k].toNat : Int)) = true := byte_eq hc
     have HE : Hid (seesB l i t = true) := hid (by rw [HS.out, seesB_hit hkt hlt hc])
     clear hc HS
     go_wp2_with fail
     go_quiet (fail)
     go_wp2_with fail
     go_ret
     rw [HE.out]
     exact ⟨rfl, HW.out.trans ((below_drewN _ _).mono HW.out.size)⟩
    ·have e3 : ((l[i].toNat : Int) == (t[k].toNat : Int)) = false := byte_ne hc
     have HE : Hid (seesB l i t = seesB l i (t.drop (k + 1))) := hid (by rw [HS.out, seesB_step hkt hlt hc])
     clear hc HS
     go_wp2_with fail
     go_quiet (fail)
     go_wp2_with fail
     go_roundw
     case rel => exact ⟨k + 1, by go_num, by omega, HE, hid (HW.out.trans ((below_drewN _ _).mono HW.out.size))⟩
     case measure => simp [intOf]; omega
   ·have e2 : decide ((i : Int) < (l.length : Int)) = false := decide_eq_false (by omega)
    have e2n : decide (i < l.length) = false := decide_eq_false hlt
    have HE : Hid (seesB l i t = false) := hid (by unfold seesB; rw [e2n]; rfl)
    clear HS
    go_wp2_with fail
    go_ret
    rw [HE.out]
    exact ⟨rfl, HW.out⟩
  ·have e1 : decide ((k : Int) < (t.length : Int)) = false := decide_eq_false (by omega)
   have e1n : decide (k < t.length) = false := decide_eq_false hkt
   have HE : Hid (seesB l i t = false) := hid (by rw [HS.out, List.drop_eq_nil_of_le (by omega)]; unfold seesB; simp)
   clear HS
   go_wp2_with fail
   go_ret
   rw [HE.out]
   exact ⟨rfl, HW.out⟩
end Go.Proofs.YtdegonmkikfghaaGreatDoor
namespace Go.Proofs.YtdegonmkikfghaaGreatDoor
open Lib (hid)
open Go.RowKit
set_option maxRecDepth 100000
theorem tagE_more {l : List UInt8} {j : Nat} (h : j < l.length) (hc : tagC l[j] = true) : tagE l j = tagE l (j + 1) := tagE_go h (by rw [show l.getD j 0 = l[j] by simp [List.getD, h]]; exact hc)
theorem tagE_here {l : List UInt8} {j : Nat} (h : j < l.length) (hc : tagC l[j] = false) : tagE l j = j := tagE_stop h (by rw [show l.getD j 0 = l[j] by simp [List.getD, h]]; exact hc)
theorem refTag_bad {s : List UInt8} (h : tagF s = none) (w : World) (hs : s.length <= 1400000) : Calls Tryz.prog 137 #[.string (B s)] w fun e w' => e = .returned (.tuple #[.agg #[.string ⟨#[]⟩, .string ⟨#[]⟩, .string ⟨#[]⟩, .string ⟨#[]⟩, .slice none 0 0, .slice none 0 0, .string ⟨#[]⟩], .int .i64 61]) /\ Below w.heap.size w w' :=
 (refTag_l s w hs).mono fun e w' hp => by
  rw [h] at hp
  exact hp
theorem refTag_ok {s : List UInt8} {t : TagL} (h : tagF s = some t) (w : World) (hs : s.length <= 1400000) : Calls Tryz.prog 137 #[.string (B s)] w fun e w' => (∃ x1 x2 x3 x4 x5 y5 z5 x6 y6 z6 x7, e = .returned (.tuple #[.agg #[.string x1, .string x2, .string x3, .string x4, .slice x5 y5 z5, .slice x6 y6 z6, .string x7], .int .i64 0])) /\ Below w.heap.size w w' :=
 (refTag_l s w hs).mono fun e w' hp => by
  rw [h] at hp
  obtain ⟨a1, a2, c1, c2, he, hb, _⟩ := hp
  exact ⟨⟨_, _, _, _, _, _, _, _, _, _, _, he⟩, hb⟩
theorem conv_new (m : List UInt8) (u : World) : ∃ cap C, (convert 9 25 (.string (B m))).run Tryz.prog u = .ok (.slice (some ⟨u.heap.size, 0, none⟩) m.length cap) (u.drew.alloc (.cells C 5 (C.size, C.size + 1))) /\ RowAt (u.alloc (.cells C 5 (C.size, C.size + 1))) u.heap.size (m.map U8) := by
 have h := run_bytes_of_string (P := Tryz.prog) u 9 25 5 (B m) Tryz.underlying9 Tryz.underlying25 Tryz.underlying5
 have hr := rowAt_bytes u (B m) (grownCap u (B m).size 0 5) 5
 rw [B_size] at h hr
 rw [B_toList] at hr
 exact ⟨_, _, h, hr⟩
set_option maxHeartbeats 12000000 in
theorem refTagAt_l (l : List UInt8) (i : Nat) (w : World) (hl : l.length <= 4194304) (hi : i < l.length) :
  Calls Tryz.prog 173 #[.string (B l), .int .i64 (i : Int)] w fun e w' => e = .returned (cutV (tagAt l i)) /\ Below w.heap.size w w' := by
 have F0 := hid (flt_new w)
 have B0 : Hid (Below w.heap.size w (w.alloc (.cells #[.int .i64 0, .int .i64 0] 42))) := hid ((Below.refl _ _).alloc (Nat.le_refl _) _)
 have i0 : 0 <= (i : Int) := by omega
 go_enter Tryz.func173, Tryz.ntmps173
 go_upto_block 0 with fail
 go_cut [7] from 14 to 43 (fun x7 wx => ∃ j : Nat, x7 = .int .i64 (j : Int) /\ i + 1 <= j /\ j <= l.length /\ Hid (tagE l (i + 1) = j) /\ Hid (RowAt wx w.heap.size [.int .i64 0, .int .i64 0]) /\ Hid (Below w.heap.size w wx))
 case first =>
  go_wp2_with fail
  go_loopw [7] (fun z wr => ∃ j : Nat, z = .int .i64 j /\ i + 1 <= j /\ j <= l.length /\ Hid (tagE l (i + 1) = tagE l j) /\ Hid (RowAt wr w.heap.size [.int .i64 0, .int .i64 0]) /\ Hid (Below w.heap.size w wr)) (fun z _ => l.length - (intOf z).toNat)
  case atStart => exact ⟨i + 1, by go_num, by omega, hi, hid rfl, F0, B0⟩
  case round =>
   obtain ⟨j, rfl, hij, hj, HG, HF, HB⟩ := hrel
   clear F0 B0
   have j0 : 0 <= (j : Int) := by omega
   by_cases hje : l.length <= j
   ·have q17 : decide ((j : Int) < (l.length : Int)) = false := decide_eq_false (by omega)
    have q17' : decide (j < l.length) = false := decide_eq_false (by omega)
    have HE : Hid (tagE l (i + 1) = j) := hid (by rw [HG.out, tagE_end hje])
    clear HG
    go_wp2_with fail
    go_meet
    exact ⟨j, rfl, by omega, hj, HE, HF, HB⟩
   have hjl : j < l.length := by omega
   have j1 : (j : Int) < (l.length : Int) := by omega
   have q17 : decide ((j : Int) < (l.length : Int)) = true := decide_eq_true (by omega)
   cases ha : alphaC l[j] with
   | true =>
    have LT : Hid (∀ u, Calls Tryz.prog 224 #[.int .u8 (l[j].toNat : Int)] u fun e w' => e = .returned (.bool true) /\ w' = u) := hid (fun u => ha ▸ ref07Letter_l l[j] u)
    have HN : Hid (tagE l (i + 1) = tagE l (j + 1)) := hid (by rw [HG.out, tagE_more hjl (by unfold tagC; rw [ha]; rfl)])
    clear ha HG
    go_wp2_with (go_at_call 224; (with_reducible refine (LT.out _).mono ?_); rintro e w1 ⟨rfl, rfl⟩)
    go_roundw
    case rel => exact ⟨j + 1, by go_num, by omega, by omega, HN, HF, HB⟩
    case measure => simp [intOf]; omega
   | false =>
    have LT : Hid (∀ u, Calls Tryz.prog 224 #[.int .u8 (l[j].toNat : Int)] u fun e w' => e = .returned (.bool false) /\ w' = u) := hid (fun u => ha ▸ ref07Letter_l l[j] u)
    by_cases h48 : 48 <= l[j].toNat
    ·have q27 : decide (48 <= (l[j].toNat : Int)) = true := decide_eq_true (by omega)
     by_cases h57 : l[j].toNat <= 57
     ·have q32 : decide ((l[j].toNat : Int) <= 57) = true := decide_eq_true (by omega)
      have HN : Hid (tagE l (i + 1) = tagE l (j + 1)) := hid (by rw [HG.out, tagE_more hjl (by unfold tagC digC; rw [ha, decide_eq_true h48, decide_eq_true h57]; rfl)])
      clear ha HG
      go_wp2_with (go_at_call 224; (with_reducible refine (LT.out _).mono ?_); rintro e w1 ⟨rfl, rfl⟩)
      go_roundw
      case rel => exact ⟨j + 1, by go_num, by omega, by omega, HN, HF, HB⟩
      case measure => simp [intOf]; omega
     ·have q32 : decide ((l[j].toNat : Int) <= 57) = false := decide_eq_false (by omega)
      have q39 : ((l[j].toNat : Int) == 45) = false := beq_eq_false_iff_ne.2 (by omega)
      have HE : Hid (tagE l (i + 1) = j) := hid (by rw [HG.out, tagE_here hjl (by unfold tagC digC; rw [ha, decide_eq_false h57, beq_eq_false_iff_ne.2 (fun e => by rw [e] at h57; exact h57 (by decide))]; simp)])
      clear ha HG
      go_wp2_with (go_at_call 224; (with_reducible refine (LT.out _).mono ?_); rintro e w1 ⟨rfl, rfl⟩)
      go_meet
      exact ⟨j, rfl, by omega, hj, HE, HF, HB⟩
    ·have q27 : decide (48 <= (l[j].toNat : Int)) = false := decide_eq_false (by omega)
     by_cases h45 : l[j] = 45
     ·have q39 : ((l[j].toNat : Int) == 45) = true := byte_eq (d := 45) h45
      have HN : Hid (tagE l (i + 1) = tagE l (j + 1)) := hid (by rw [HG.out, tagE_more hjl (by unfold tagC; rw [h45]; simp)])
      clear ha HG h45
      go_wp2_with (go_at_call 224; (with_reducible refine (LT.out _).mono ?_); rintro e w1 ⟨rfl, rfl⟩)
      go_roundw
      case rel => exact ⟨j + 1, by go_num, by omega, by omega, HN, HF, HB⟩
      case measure => simp [intOf]; omega
     ·have q39 : ((l[j].toNat : Int) == 45) = false := byte_ne (d := 45) h45
      have HE : Hid (tagE l (i + 1) = j) := hid (by rw [HG.out, tagE_here hjl (by unfold tagC digC; rw [ha, decide_eq_false h48, beq_eq_false_iff_ne.2 h45]; rfl)])
      clear ha HG h45
      go_wp2_with (go_at_call 224; (with_reducible refine (LT.out _).mono ?_); rintro e w1 ⟨rfl, rfl⟩)
      go_meet
      exact ⟨j, rfl, by omega, hj, HE, HF, HB⟩
 case rest =>
  obtain ⟨j, rfl, hij, hj, HJ, HF, HB⟩ := hcut
  clear F0 B0
  have HX : Hid (tagAt l i = if 65536 < (cutF l (i + 1) j).length then .inr (i, 2) else if (tagF (cutF l (i + 1) j)).isNone = true then .inr (i + 1, 61) else .inl (lowL (cutF l (i + 1) j), j)) := hid (by unfold tagAt; rw [HJ.out])
  have hcl : (cutF l (i + 1) j).length = j - (i + 1) := by unfold cutF; simp; omega
  have HCUT : Hid ((l.drop (i + 1)).take (j - (i + 1)) = cutF l (i + 1) j) := hid rfl
  have s0 : 0 <= (i : Int) + 1 := by omega
  have s1 : (i : Int) + 1 <= (j : Int) := by omega
  have s2 : (j : Int) <= (l.length : Int) := by omega
  obtain ⟨m, hm⟩ : ∃ m, cutF l (i + 1) j = m := ⟨_, rfl⟩
  rw [hm] at HX hcl HCUT
  clear hm
  by_cases hbig : 65536 < m.length
  ·have q48 : decide (65536 < (j : Int) - (i : Int) - 1) = true := decide_eq_true (by omega)
   have HE : Hid (tagAt l i = .inr (i, 2)) := hid (by rw [HX.out, if_pos hbig])
   obtain ⟨c0, c1, f0, f1, hg⟩ := row_two HF.out
   clear HX
   go_wp2_with fail
   refine bodyPost_ret (v := .tuple #[.string ⟨#[]⟩, .int .i64 0, .agg #[.int .i64 (i : Int), .int .i64 2]]) (by simp [results, Tryz.results173, go_sem, c0, c1]) rfl ?_
   rw [HE.out]
   exact ⟨rfl, (HB.out.setCell (p := ⟨w.heap.size, 0, none⟩) (Nat.le_refl _) _).setCell (p := ⟨w.heap.size, 1, none⟩) (Nat.le_refl _) _⟩
  have q48 : decide (65536 < (j : Int) - (i : Int) - 1) = false := decide_eq_false (by omega)
  rw [if_neg hbig] at HX
  cases ht : tagF m with
  | none =>
   have TG := hid (fun u => refTag_bad ht u (by omega))
   have HE : Hid (tagAt l i = .inr (i + 1, 61)) := hid (by rw [HX.out, ht]; rfl)
   clear ht HX hbig
   go_wp2_with (go_at_call 137; rw [HCUT.out]; (with_reducible refine (TG.out _).mono ?_); rintro e w2 ⟨rfl, hb0⟩; have hb := hb0.alloc hb0.size (.cells #[.string ⟨#[]⟩, .string ⟨#[]⟩, .string ⟨#[]⟩, .string ⟨#[]⟩, .slice none 0 0, .slice none 0 0, .string ⟨#[]⟩] 179); clear hb0; have HB2 := hid (HB.out.trans (hb.mono HB.out.size)); obtain ⟨c0, c1, f0, f1, hg⟩ := row_two (rowAt_below HF.out hb); clear hb)
   refine bodyPost_ret (v := .tuple #[.string ⟨#[]⟩, .int .i64 0, .agg #[.int .i64 ((i : Int) + 1), .int .i64 61]]) (by simp [results, Tryz.results173, go_sem, c0, c1]) rfl ?_
   rw [HE.out]
   exact ⟨rfl, (HB2.out.setCell (p := ⟨w.heap.size, 0, none⟩) (Nat.le_refl _) _).setCell (p := ⟨w.heap.size, 1, none⟩) (Nat.le_refl _) _⟩
  | some t =>
   have TG := hid (fun u => refTag_ok ht u (by omega))
   have HE : Hid (tagAt l i = .inl (lowL m, j)) := hid (by rw [HX.out, ht]; rfl)
   have hml : m.length <= 65536 := by omega
   clear ht HX hbig hcl
   go_wp2_with (go_at_call 137; rw [HCUT.out]; (with_reducible refine (TG.out _).mono ?_); rintro e w2 ⟨⟨x1, x2, x3, x4, x5, y5, z5, x6, y6, z6, x7, rfl⟩, hb0⟩; have hb0' := hb0; have HB0 := HB.out.trans (hb0.mono HB.out.size); have hs0 := HB0.size; have hb := hb0.alloc hb0.size (.cells #[.string x1, .string x2, .string x3, .string x4, .slice x5 y5 z5, .slice x6 y6 z6, .string x7] 179); clear hb0; obtain ⟨cap, C, hconv0, hrow⟩ := conv_new m (w2.alloc (.cells #[.string x1, .string x2, .string x3, .string x4, .slice x5 y5 z5, .slice x6 y6 z6, .string x7] 179)); have hconv : (convert 9 25 (.string (B ((l.drop (i + 1)).take (j - (i + 1)))))).run Tryz.prog (w2.alloc (.cells #[.string x1, .string x2, .string x3, .string x4, .slice x5 y5 z5, .slice x6 y6 z6, .string x7] 179)) = .ok (.slice (some ⟨w2.heap.size + 1, 0, none⟩) m.length cap) (((w2.alloc (.cells #[.string x1, .string x2, .string x3, .string x4, .slice x5 y5 z5, .slice x6 y6 z6, .string x7] 179))).drew.alloc (.cells C 5 (C.size, C.size + 1))) := (by rw [HCUT.out, hconv0, World.size_alloc]); rw [World.size_alloc] at hrow; have HRB := hid hrow; have hb5 : Below w2.heap.size w2 (((w2.alloc (.cells #[.string x1, .string x2, .string x3, .string x4, .slice x5 y5 z5, .slice x6 y6 z6, .string x7] 179))).alloc (.cells C 5 (C.size, C.size + 1))) := ((Below.refl _ _).alloc (Nat.le_refl _) _).alloc (by simp) _; have HB5 := hid (HB0.trans (hb5.mono HB0.size)); have HF5 := hid (rowAt_below (rowAt_below HF.out hb0') hb5); clear hconv0 hrow hb5 hb hb0' HB0)
   obtain ⟨g2, hg2⟩ : ∃ g2, w2.heap.size + 1 = g2 := ⟨_, rfl⟩
   rw [hg2] at HRB ⊢
   have hgg : w.heap.size < g2 := by omega
   clear hconv TG HF HB HCUT HJ
   go_loopw [11] (fun z wr => ∃ k : Nat, k <= m.length /\ z = .int .i64 k /\ Hid (RowAt wr g2 ((lowTo k m).map U8)) /\ Hid (RowAt wr w.heap.size [.int .i64 0, .int .i64 0]) /\ Hid (Below w.heap.size w wr)) (fun z _ => m.length - (intOf z).toNat)
   case atStart => exact ⟨0, Nat.zero_le _, rfl, hid (by rw [lowTo_zero]; exact HRB.out), HF5, hid HB5.out.drew⟩
   case round =>
    obtain ⟨k, hk, rfl, HR, HF, HB⟩ := hrel
    clear HRB HF5 HB5
    by_cases hlt : k < m.length
    ·have hlm : k < ((lowTo k m).map U8).length := by rw [List.length_map, lowTo_length]; exact hlt
     have hcell := HR.out.cell hlm
     have hfree := HR.out.free hlm
     rw [u8_map _ _ (by rw [lowTo_length]; exact hlt), lowTo_at _ _ hlt] at hcell
     have HS : Hid ((lowTo k m).set k (lowB m[k]) = lowTo (k + 1) m) := lowTo_set _ _ hlt
     have q74 : decide ((k : Int) < (m.length : Int)) = true := decide_eq_true (by omega)
     obtain ⟨c, hc⟩ : ∃ c, m[k] = c := ⟨_, rfl⟩
     rw [hc] at hcell HS
     have HC := hid hc
     have hcl8 := c.toNat_lt
     clear hc
     by_cases h65 : 65 <= (c.toNat : Int)
     ·have q81 : decide (65 <= (c.toNat : Int)) = true := decide_eq_true h65
      by_cases h90 : (c.toNat : Int) <= 90
      ·have q87 : decide ((c.toNat : Int) <= 90) = true := decide_eq_true h90
       go_wp2_with fail
       go_roundw
       case rel => exact ⟨k + 1, by omega, by go_num, hid (low_store HR.out hlt HS.out h65 h90), hid (RowAt.other HF.out (by omega) _), hid (HB.out.setCell (by simp; omega) _)⟩
       case measure => simp [intOf]; omega
      ·have q87 : decide ((c.toNat : Int) <= 90) = false := decide_eq_false h90
       go_wp2_with fail
       go_roundw
       case rel => exact ⟨k + 1, by omega, by go_num, hid (low_keep HR.out hlt HC.out (.inr (by omega))), HF, HB⟩
       case measure => simp [intOf]; omega
     ·have q81 : decide (65 <= (c.toNat : Int)) = false := decide_eq_false h65
      go_wp2_with fail
      go_roundw
      case rel => exact ⟨k + 1, by omega, by go_num, hid (low_keep HR.out hlt HC.out (.inl (by omega))), HF, HB⟩
      case measure => simp [intOf]; omega
    ·have hkm : k = m.length := by omega
     have q74 : decide ((k : Int) < (m.length : Int)) = false := decide_eq_false (by omega)
     have q74' : decide (k < m.length) = false := decide_eq_false (by omega)
     have hr := HR.out
     rw [hkm, lowTo_all] at hr
     have hback := back_of_row (P := Tryz.prog) wr 25 9 5 g2 cap m.length (lowL m) (by simp [lowL]) Tryz.underlying25 Tryz.underlying5 Tryz.underlying9 hr
     obtain ⟨c0, c1, f0, f1, hg⟩ := row_two HF.out
     clear hr HR hkm
     go_wp2_with fail
     refine bodyPost_ret (v := .tuple #[.string (B (lowL m)), .int .i64 (j : Int), .agg #[.int .i64 0, .int .i64 0]]) (by simp [results, Tryz.results173, go_sem, c0, c1]) rfl ?_
     rw [HE.out]
     exact ⟨rfl, (HB.out.setCell (p := ⟨w.heap.size, 0, none⟩) (Nat.le_refl _) _).setCell (p := ⟨w.heap.size, 1, none⟩) (Nat.le_refl _) _⟩
end Go.Proofs.YtdegonmkikfghaaGreatDoor
