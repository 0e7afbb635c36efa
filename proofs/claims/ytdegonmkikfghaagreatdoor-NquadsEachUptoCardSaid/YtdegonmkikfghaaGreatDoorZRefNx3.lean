/-
  tesseraref07: lit, Next: contracts. By an AI agent.
-/
import Derived.Test.YtdegonmkikfghaaGreatDoorZNextR0
namespace Go.Proofs.YtdegonmkikfghaaGreatDoor
open Lib (hid)
open Go.RowKit
set_option maxRecDepth 100000
def termNV : (TermL × Nat) ⊕ (Nat × Int) -> Value
 | .inl (t, n) => .tuple #[.agg #[.int .i64 t.kind, .string (B t.text), .string (B t.type), .string (B t.lang)], .int .i64 (n : Int), .agg #[.int .i64 0, .int .i64 0]]
 | .inr (p, e) => .tuple #[.agg #[.int .i64 0, .string ⟨#[]⟩, .string ⟨#[]⟩, .string ⟨#[]⟩], .int .i64 0, .agg #[.int .i64 (p : Int), .int .i64 e]]
structure NxMem (w u : World) : Prop where
 b : Below w.heap.size w u
 t : RowAt u w.heap.size [.int .i64 0, .string ⟨#[]⟩, .string ⟨#[]⟩, .string ⟨#[]⟩]
 f : RowAt u (w.heap.size + 1) [.int .i64 0, .int .i64 0]
theorem NxMem.below {w u u' : World} (h : NxMem w u) (hb : Below u.heap.size u u') : NxMem w u' := ⟨h.b.trans (hb.mono h.b.size), rowAt_below h.t hb, rowAt_below h.f hb⟩
theorem nxMem_new (w : World) : NxMem w ((w.alloc (.cells #[.int .i64 0, .string ⟨#[]⟩, .string ⟨#[]⟩, .string ⟨#[]⟩] 34)).alloc (.cells #[.int .i64 0, .int .i64 0] 42)) := by
 refine ⟨((Below.refl _ _).alloc (Nat.le_refl _) _).alloc (by simp) _, ?_, ?_⟩
 ·have h : RowAt (w.alloc (.cells #[.int .i64 0, .string ⟨#[]⟩, .string ⟨#[]⟩, .string ⟨#[]⟩] 34)) w.heap.size [.int .i64 0, .string ⟨#[]⟩, .string ⟨#[]⟩, .string ⟨#[]⟩] := rowAt_of_heap (L := [.int .i64 0, .string ⟨#[]⟩, .string ⟨#[]⟩, .string ⟨#[]⟩]) (t := 34) (heap_alloc_new _ _)
  exact rowAt_below h ((Below.refl _ _).alloc (Nat.le_refl _) _)
 ·have h := flt_new (w.alloc (.cells #[.int .i64 0, .string ⟨#[]⟩, .string ⟨#[]⟩, .string ⟨#[]⟩] 34))
  rwa [World.size_alloc] at h
theorem NxMem.all {w u : World} (h : NxMem w u) : (u.cell? ⟨w.heap.size, 0, none⟩ = some (.int .i64 0) /\ u.cell? ⟨w.heap.size, 1, none⟩ = some (.string ⟨#[]⟩) /\ u.cell? ⟨w.heap.size, 2, none⟩ = some (.string ⟨#[]⟩) /\ u.cell? ⟨w.heap.size, 3, none⟩ = some (.string ⟨#[]⟩) /\ u.frozen? ⟨w.heap.size, 0, none⟩ = false /\ u.frozen? ⟨w.heap.size, 1, none⟩ = false /\ u.frozen? ⟨w.heap.size, 2, none⟩ = false /\ u.frozen? ⟨w.heap.size, 3, none⟩ = false) /\
  u.cell? ⟨w.heap.size + 1, 0, none⟩ = some (.int .i64 0) /\ u.cell? ⟨w.heap.size + 1, 1, none⟩ = some (.int .i64 0) /\ u.frozen? ⟨w.heap.size + 1, 0, none⟩ = false /\ u.frozen? ⟨w.heap.size + 1, 1, none⟩ = false /\ w.heap.size < u.heap.size /\ w.heap.size + 1 < u.heap.size :=
 ⟨h.t.four, h.f.cell (j := 0) (by simp), h.f.cell (j := 1) (by simp), h.f.free (j := 0) (by simp), h.f.free (j := 1) (by simp), World.block_lt_of_cell? _ _ (h.t.cell (j := 0) (by simp)), World.block_lt_of_cell? _ _ (h.f.cell (j := 0) (by simp))⟩
theorem NxMem.ltf {w u : World} (h : NxMem w u) : w.heap.size + 1 < u.heap.size := World.block_lt_of_cell? _ _ (h.f.cell (j := 0) (by simp))
theorem ne_four {a b : Nat} (h : a + 1 < b) : ¬ b + 1 = a /\ ¬ a = b + 1 /\ ¬ b = a /\ ¬ a = b /\ a <= b := by omega
theorem closeF_err (l : List UInt8) : ∀ (k i : Nat) (s : Bool) (p : Nat) (e : Int), l.length - i <= k -> closeF l i s = .inr (p, e) -> e = 90
 | k, i, s, p, e, hk, hq => by
  by_cases h : l.length <= i
  ·rw [closeF_end h] at hq; cases hq; rfl
  by_cases h1 : l.getD i 0 = 10 \/ l.getD i 0 = 13
  ·rw [closeF_line (by omega) h1] at hq; cases hq; rfl
  have step : ∀ s', closeF l (i + 1) s' = .inr (p, e) -> e = 90 := fun s' h' => by
   match k, hk with
   | 0, hk => omega
   | k + 1, hk => exact closeF_err l k (i + 1) s' p e (by omega) h'
  cases s with
  | true => rw [closeF_behind (by omega) h1] at hq; exact step _ hq
  | false =>
   by_cases h2 : l.getD i 0 = 92
   ·rw [closeF_slash (by omega) h2] at hq; exact step _ hq
   by_cases h3 : l.getD i 0 = 34
   ·rw [closeF_quote (by omega) h3] at hq; cases hq
   ·rw [closeF_go (by omega) h1 h2 h3] at hq; exact step _ hq
theorem iriAt_err {l : List UInt8} {i p : Nat} {e : Int} (h : iriAt l i = .inr (p, e)) : (e != 0) = true := by
 refine bne_iff_ne.2 ?_
 unfold iriAt at h
 split at h
 ·cases h; decide
 split at h
 ·cases h; decide
 split at h
 ·next q c hq =>
  have hh := (unesc_at 2 _ _ 0 q c (Nat.le_refl _) hq).2
  cases h
  rcases hh with h | h <;> rw [h] <;> decide
 ·split at h
  ·next hn => cases h; exact hn
  ·cases h
theorem tagAt_err {l : List UInt8} {i p : Nat} {e : Int} (h : tagAt l i = .inr (p, e)) : (e != 0) = true := by
 unfold tagAt at h
 split at h
 ·cases h; rfl
 split at h
 ·cases h; rfl
 ·cases h
theorem refIri_bad {l : List UInt8} {i p : Nat} {e : Int} (h : iriAt l i = .inr (p, e)) (w : World) (hl : l.length <= 4194304) (hi : i <= l.length) : Calls Tryz.prog 127 #[.string (B l), .int .i64 (i : Int)] w fun x w' => x = .returned (.tuple #[.string ⟨#[]⟩, .int .i64 0, .agg #[.int .i64 (p : Int), .int .i64 e]]) /\ Below w.heap.size w w' := by
 have := refIri_l l i w hl hi
 rw [h] at this
 exact this
theorem refIri_ok {l t : List UInt8} {i n : Nat} (h : iriAt l i = .inl (t, n)) (w : World) (hl : l.length <= 4194304) (hi : i <= l.length) : Calls Tryz.prog 127 #[.string (B l), .int .i64 (i : Int)] w fun x w' => x = .returned (.tuple #[.string (B t), .int .i64 (n : Int), .agg #[.int .i64 0, .int .i64 0]]) /\ Below w.heap.size w w' := by
 have := refIri_l l i w hl hi
 rw [h] at this
 exact this
theorem refTagAt_bad {l : List UInt8} {i p : Nat} {e : Int} (h : tagAt l i = .inr (p, e)) (w : World) (hl : l.length <= 4194304) (hi : i < l.length) : Calls Tryz.prog 173 #[.string (B l), .int .i64 (i : Int)] w fun x w' => x = .returned (.tuple #[.string ⟨#[]⟩, .int .i64 0, .agg #[.int .i64 (p : Int), .int .i64 e]]) /\ Below w.heap.size w w' := by
 have := refTagAt_l l i w hl hi
 rw [h] at this
 exact this
theorem refTagAt_ok {l t : List UInt8} {i n : Nat} (h : tagAt l i = .inl (t, n)) (w : World) (hl : l.length <= 4194304) (hi : i < l.length) : Calls Tryz.prog 173 #[.string (B l), .int .i64 (i : Int)] w fun x w' => x = .returned (.tuple #[.string (B t), .int .i64 (n : Int), .agg #[.int .i64 0, .int .i64 0]]) /\ Below w.heap.size w w' := by
 have := refTagAt_l l i w hl hi
 rw [h] at this
 exact this
theorem refQuoted_bad {l : List UInt8} {i p : Nat} {e : Int} (h : closeF l (i + 1) false = .inr (p, e)) (w : World) (hl : l.length <= 4194304) (hi : i < l.length) : Calls Tryz.prog 172 #[.string (B l), .int .i64 (i : Int)] w fun x w' => x = .returned (.tuple #[.int .i64 0, .agg #[.int .i64 (p : Int), .int .i64 e]]) /\ Below w.heap.size w w' := by
 have := refQuoted_l l i w hl hi
 rw [h] at this
 exact this
theorem refQuoted_ok {l : List UInt8} {i n : Nat} (h : closeF l (i + 1) false = .inl n) (w : World) (hl : l.length <= 4194304) (hi : i < l.length) : Calls Tryz.prog 172 #[.string (B l), .int .i64 (i : Int)] w fun x w' => x = .returned (.tuple #[.int .i64 (n : Int), .agg #[.int .i64 0, .int .i64 0]]) /\ Below w.heap.size w w' := by
 have := refQuoted_l l i w hl hi
 rw [h] at this
 exact this
theorem row11 (w3 : World) (t : List UInt8) : RowAt ((w3.alloc (.cells #[.int .i64 0, .int .i64 0] 125)).alloc (.cells #[.int .i64 3, .string (B t), .string ⟨#[104, 116, 116, 112, 58, 47, 47, 119, 119, 119, 46, 119, 51, 46, 111, 114, 103, 47, 50, 48, 48, 49, 47, 88, 77, 76, 83, 99, 104, 101, 109, 97, 35, 115, 116, 114, 105, 110, 103]⟩, .string ⟨#[]⟩] 34)) (w3.heap.size + 1) [.int .i64 3, .string (B t), .string ⟨#[104, 116, 116, 112, 58, 47, 47, 119, 119, 119, 46, 119, 51, 46, 111, 114, 103, 47, 50, 48, 48, 49, 47, 88, 77, 76, 83, 99, 104, 101, 109, 97, 35, 115, 116, 114, 105, 110, 103]⟩, .string ⟨#[]⟩] := by
 have h : RowAt ((w3.alloc (.cells #[.int .i64 0, .int .i64 0] 125)).alloc (.cells #[.int .i64 3, .string (B t), .string ⟨#[104, 116, 116, 112, 58, 47, 47, 119, 119, 119, 46, 119, 51, 46, 111, 114, 103, 47, 50, 48, 48, 49, 47, 88, 77, 76, 83, 99, 104, 101, 109, 97, 35, 115, 116, 114, 105, 110, 103]⟩, .string ⟨#[]⟩] 34)) (w3.alloc (.cells #[.int .i64 0, .int .i64 0] 125)).heap.size [.int .i64 3, .string (B t), .string ⟨#[104, 116, 116, 112, 58, 47, 47, 119, 119, 119, 46, 119, 51, 46, 111, 114, 103, 47, 50, 48, 48, 49, 47, 88, 77, 76, 83, 99, 104, 101, 109, 97, 35, 115, 116, 114, 105, 110, 103]⟩, .string ⟨#[]⟩] := rowAt_of_heap (L := [.int .i64 3, .string (B t), .string ⟨#[104, 116, 116, 112, 58, 47, 47, 119, 119, 119, 46, 119, 51, 46, 111, 114, 103, 47, 50, 48, 48, 49, 47, 88, 77, 76, 83, 99, 104, 101, 109, 97, 35, 115, 116, 114, 105, 110, 103]⟩, .string ⟨#[]⟩]) (t := 34) (heap_alloc_new _ _)
 rwa [World.size_alloc] at h
set_option maxHeartbeats 12000000 in
theorem refLit_l (l : List UInt8) (i : Nat) (w : World) (hl : l.length <= 4194304) (hi : i < l.length) :
  Calls Tryz.prog 128 #[.string (B l), .int .i64 (i : Int)] w fun e w' => e = .returned (termNV (litAt l i)) /\ Below w.heap.size w w' := by
 have HM0 := hid (nxMem_new w)
 have i0 : 0 <= (i : Int) := by omega
 cases hc : closeF l (i + 1) false with
 | inr f =>
  obtain ⟨p, e⟩ := f
  have he := closeF_err l l.length (i + 1) false p e (by omega) hc
  have e0 : (e != 0) = true := by rw [he]; rfl
  have QT := hid (fun u => refQuoted_bad hc u hl hi)
  have HE : Hid (litAt l i = .inr (p, e)) := hid (by unfold litAt; rw [hc])
  clear hc he
  focus
   go_enter Tryz.func128, Tryz.ntmps128
   go_wp2_with (go_at_call 172; (with_reducible refine (QT.out _).mono ?_); rintro e w2 ⟨rfl, hb⟩; have HM2 := hid (HM0.out.below hb); obtain ⟨⟨t0, t1, t2, t3, r0, r1, r2, r3⟩, c0, c1, f0, f1, hg, hg2⟩ := HM2.out.all; clear hb)
   go_region
   all_goals
    go_wp2_with fail
    refine bodyPost_ret (v := .tuple #[.agg #[.int .i64 0, .string ⟨#[]⟩, .string ⟨#[]⟩, .string ⟨#[]⟩], .int .i64 0, .agg #[.int .i64 (p : Int), .int .i64 e]]) (by simp [results, Tryz.results128, go_sem, t0, t1, t2, t3, c0, c1, hg, hg2]) rfl ?_
    rw [HE.out]
    refine ⟨rfl, ?_⟩
    have hbb := HM2.out.b
    have hbs := hbb.size
    repeat (first | (with_reducible exact hbb) | (with_reducible refine Below.drew ?_) | (with_reducible refine Below.setCell ?_ (by first | (simp; done) | (simp; omega)) _) | (with_reducible refine Below.alloc ?_ (by first | (simp; done) | (simp; omega)) _))
 | inl n =>
  obtain ⟨hn1, hn2, -⟩ := closeF_bound l l.length (i + 1) false n (by omega) hc
  have QT := hid (fun u => refQuoted_ok hc u hl hi)
  have HX : Hid (litAt l i = match unescF 1 (cutF l (i + 1) n) 0 with
   | .inr (p, c) => .inr (i + 1 + p, c)
   | .inl t => if 65536 < t.length then .inr (i, 2) else behindF l t (n + 1)) := hid (by unfold litAt; rw [hc]; rfl)
  have hcl := cutF_len l (i + 1) n
  have HCUT : Hid ((l.drop (i + 1)).take (n - (i + 1)) = cutF l (i + 1) n) := hid rfl
  have s0 : 0 <= (i : Int) + 1 := by omega
  have s1 : (i : Int) + 1 <= (n : Int) := by omega
  have s2 : (n : Int) <= (l.length : Int) := by omega
  have QA : Hid True := hid trivial
  clear hc
  cases hq : unescF 1 (cutF l (i + 1) n) 0 with
  | inr f =>
   obtain ⟨p, c⟩ := f
   have hp := unesc_at 1 _ _ 0 p c (Nat.le_refl _) hq
   have UN := hid (fun u => refUnesc_bad hq (by omega) u)
   have hpl : p <= l.length := by omega
   have e0 : (c != 0) = true := bne_iff_ne.2 (by rcases hp.2 with h | h <;> rw [h] <;> decide)
   have HE : Hid (litAt l i = .inr (i + 1 + p, c)) := hid (by rw [HX.out, hq])
   clear hq hp HX hcl
   focus
    go_enter Tryz.func128, Tryz.ntmps128
    go_wp2_with (first
     | (go_at_call 172; (with_reducible refine (QT.out _).mono ?_); rintro e w2 ⟨rfl, hb0⟩; have hb := hb0.alloc hb0.size (.cells #[.int .i64 0, .int .i64 0] 42); clear hb0; have HM2 := hid (HM0.out.below hb); clear hb)
     | (go_at_call 171; rw [HCUT.out]; (with_reducible refine (UN.out _).mono ?_); rintro e w3 ⟨rfl, hb⟩; have HM3 := hid (HM2.out.below hb); obtain ⟨⟨t0, t1, t2, t3, r0, r1, r2, r3⟩, c0, c1, f0, f1, hg, hg2⟩ := HM3.out.all; clear hb))
    go_region
    all_goals
     go_wp2_with fail
     refine bodyPost_ret (v := .tuple #[.agg #[.int .i64 0, .string ⟨#[]⟩, .string ⟨#[]⟩, .string ⟨#[]⟩], .int .i64 0, .agg #[.int .i64 ((i : Int) + 1 + (p : Int)), .int .i64 c]]) (by simp [results, Tryz.results128, go_sem, t0, t1, t2, t3, c0, c1, hg, hg2]) rfl ?_
     rw [HE.out]
     refine ⟨rfl, ?_⟩
     have hbb := HM3.out.b
     have hbs := hbb.size
     repeat (first | (with_reducible exact hbb) | (with_reducible refine Below.drew ?_) | (with_reducible refine Below.setCell ?_ (by first | (simp; done) | (simp; omega)) _) | (with_reducible refine Below.alloc ?_ (by first | (simp; done) | (simp; omega)) _))
  | inl t =>
   have hu := unesc_len 1 _ _ 0 t (Nat.le_refl _) hq
   have UN := hid (fun u => refUnesc_ok hq (by omega) u)
   have htl : t.length <= 16777216 := by omega
   rw [hq] at HX
   simp only at HX
   clear hq hu hcl
   by_cases hbig : 65536 < t.length
   ·have q52 : decide (65536 < (t.length : Int)) = true := decide_eq_true (by omega)
    have HE : Hid (litAt l i = .inr (i, 2)) := hid (by rw [HX.out, if_pos hbig])
    clear HX hbig
    focus
     go_enter Tryz.func128, Tryz.ntmps128
     go_wp2_with (first
      | (go_at_call 172; (with_reducible refine (QT.out _).mono ?_); rintro e w2 ⟨rfl, hb0⟩; have hb := hb0.alloc hb0.size (.cells #[.int .i64 0, .int .i64 0] 42); clear hb0; have HM2 := hid (HM0.out.below hb); clear hb)
      | (go_at_call 171; rw [HCUT.out]; (with_reducible refine (UN.out _).mono ?_); rintro e w3 ⟨rfl, hb⟩; have HM3 := hid (HM2.out.below hb); obtain ⟨⟨t0, t1, t2, t3, r0, r1, r2, r3⟩, c0, c1, f0, f1, hg, hg2⟩ := HM3.out.all; clear hb))
     refine bodyPost_ret (v := .tuple #[.agg #[.int .i64 0, .string ⟨#[]⟩, .string ⟨#[]⟩, .string ⟨#[]⟩], .int .i64 0, .agg #[.int .i64 (i : Int), .int .i64 2]]) (by simp [results, Tryz.results128, go_sem, t0, t1, t2, t3, c0, c1, hg, hg2]) rfl ?_
     rw [HE.out]
     refine ⟨rfl, ?_⟩
     have hbb := HM3.out.b
     have hbs := hbb.size
     repeat (first | (with_reducible exact hbb) | (with_reducible refine Below.drew ?_) | (with_reducible refine Below.setCell ?_ (by first | (simp; done) | (simp; omega)) _) | (with_reducible refine Below.alloc ?_ (by first | (simp; done) | (simp; omega)) _))
   ·have q52 : decide (65536 < (t.length : Int)) = false := decide_eq_false (by omega)
    have HY : Hid (litAt l i = behindF l t (n + 1)) := hid (by rw [HX.out, if_neg hbig])
    have k0 : 0 <= (n : Int) + 1 := by omega
    clear HX hbig
    by_cases hend : l.length <= n + 1
    ·have q63 : decide ((n : Int) + 1 < (l.length : Int)) = false := decide_eq_false (by omega)
     have q92 : decide ((n : Int) + 1 + 1 < (l.length : Int)) = false := decide_eq_false (by omega)
     have HE : Hid (litAt l i = .inl (⟨3, t, plainT, []⟩, n + 1)) := hid (by rw [HY.out]; unfold behindF; rw [if_neg (by rw [show l.getD (n + 1) 0 = 0 by simp [List.getD, hend]]; decide), if_neg (by rw [show l.getD (n + 1) 0 = 0 by simp [List.getD, hend]]; exact fun h => absurd h.1 (by decide))])
     clear HY hend
     focus
      go_enter Tryz.func128, Tryz.ntmps128
      go_wp2_with (first
       | (go_at_call 172; (with_reducible refine (QT.out _).mono ?_); rintro e w2 ⟨rfl, hb0⟩; have hb := hb0.alloc hb0.size (.cells #[.int .i64 0, .int .i64 0] 42); clear hb0; have HM2 := hid (HM0.out.below hb); clear hb)
       | (go_at_call 171; rw [HCUT.out]; (with_reducible refine (UN.out _).mono ?_); rintro e w3 ⟨rfl, hb0⟩; obtain ⟨nn0, nn1, nn2, nn3, nn4⟩ := ne_four (HM2.out.below hb0).ltf; have hb1 := hb0.alloc hb0.size (.cells #[.int .i64 0, .int .i64 0] 125); have hb := hb1.alloc hb1.size (.cells #[.int .i64 3, .string (B t), .string ⟨#[104, 116, 116, 112, 58, 47, 47, 119, 119, 119, 46, 119, 51, 46, 111, 114, 103, 47, 50, 48, 48, 49, 47, 88, 77, 76, 83, 99, 104, 101, 109, 97, 35, 115, 116, 114, 105, 110, 103]⟩, .string ⟨#[]⟩] 34); have hr11 : RowAt ((w3.alloc (.cells #[.int .i64 0, .int .i64 0] 125)).alloc (.cells #[.int .i64 3, .string (B t), .string ⟨#[104, 116, 116, 112, 58, 47, 47, 119, 119, 119, 46, 119, 51, 46, 111, 114, 103, 47, 50, 48, 48, 49, 47, 88, 77, 76, 83, 99, 104, 101, 109, 97, 35, 115, 116, 114, 105, 110, 103]⟩, .string ⟨#[]⟩] 34)) (w3.heap.size + 1) [.int .i64 3, .string (B t), .string ⟨#[104, 116, 116, 112, 58, 47, 47, 119, 119, 119, 46, 119, 51, 46, 111, 114, 103, 47, 50, 48, 48, 49, 47, 88, 77, 76, 83, 99, 104, 101, 109, 97, 35, 115, 116, 114, 105, 110, 103]⟩, .string ⟨#[]⟩] := (row11 w3 t); have HR11 := hid hr11; clear hb0 hb1 hr11; have HM3 := hid (HM2.out.below hb); clear hb; obtain ⟨⟨t0, t1, t2, t3, r0, r1, r2, r3⟩, c0, c1, f0, f1, hg, hg2⟩ := HM3.out.all; have hh := HR11.out.four; obtain ⟨d0, d1, d2, d3, g0, g1, g2, g3⟩ := hh))
      refine bodyPost_ret (v := .tuple #[.agg #[.int .i64 3, .string (B t), .string ⟨#[104, 116, 116, 112, 58, 47, 47, 119, 119, 119, 46, 119, 51, 46, 111, 114, 103, 47, 50, 48, 48, 49, 47, 88, 77, 76, 83, 99, 104, 101, 109, 97, 35, 115, 116, 114, 105, 110, 103]⟩, .string ⟨#[]⟩], .int .i64 ((n : Int) + 1), .agg #[.int .i64 0, .int .i64 0]]) (by simp [results, Tryz.results128, go_sem, t0, t1, t2, t3, c0, c1]) rfl ?_
      rw [HE.out]
      refine ⟨rfl, ?_⟩
      have hbb := HM3.out.b
      have hbs := hbb.size
      repeat (first | (with_reducible exact hbb) | (with_reducible refine Below.drew ?_) | (with_reducible refine Below.setCell ?_ (by first | (simp; done) | (simp; omega)) _) | (with_reducible refine Below.alloc ?_ (by first | (simp; done) | (simp; omega)) _))
    have hlt : n + 1 < l.length := by omega
    have q63 : decide ((n : Int) + 1 < (l.length : Int)) = true := decide_eq_true (by omega)
    have k1 : (n : Int) + 1 < (l.length : Int) := by omega
    have hgn : l.getD (n + 1) 0 = l[n + 1] := by simp [List.getD, hlt]
    clear hend
    by_cases h64 : l[n + 1] = 64
    ·have q68 : ((l[n + 1].toNat : Int) == 64) = true := byte_eq (d := 64) h64
     have HZ : Hid (litAt l i = match tagAt l (n + 1) with
      | .inr f => .inr f
      | .inl (lang, m) => .inl (⟨3, t, tagged, lang⟩, m)) := hid (by rw [HY.out]; unfold behindF; rw [if_pos (by rw [hgn]; exact h64)]; rfl)
     clear HY h64 hgn
     cases hq : tagAt l (n + 1) with
     | inr f =>
      obtain ⟨p, c⟩ := f
      have e0 := tagAt_err hq
      have TG : Hid (∀ u, Calls Tryz.prog 173 #[.string (B l), .int .i64 ((n : Int) + 1)] u fun x w' => x = .returned (.tuple #[.string ⟨#[]⟩, .int .i64 0, .agg #[.int .i64 (p : Int), .int .i64 c]]) /\ Below u.heap.size u w') := hid (fun u => refTagAt_bad hq u hl hlt)
      have HE : Hid (litAt l i = .inr (p, c)) := hid (by rw [HZ.out, hq])
      clear HZ hq
      focus
       go_enter Tryz.func128, Tryz.ntmps128
       go_wp2_with (first
        | (go_at_call 172; (with_reducible refine (QT.out _).mono ?_); rintro e w2 ⟨rfl, hb0⟩; have hb := hb0.alloc hb0.size (.cells #[.int .i64 0, .int .i64 0] 42); clear hb0; have HM2 := hid (HM0.out.below hb); clear hb)
        | (go_at_call 171; rw [HCUT.out]; (with_reducible refine (UN.out _).mono ?_); rintro e w3 ⟨rfl, hb0⟩; obtain ⟨nn0, nn1, nn2, nn3, nn4⟩ := ne_four (HM2.out.below hb0).ltf; have hb1 := hb0.alloc hb0.size (.cells #[.int .i64 0, .int .i64 0] 125); have hb := hb1.alloc hb1.size (.cells #[.int .i64 3, .string (B t), .string ⟨#[104, 116, 116, 112, 58, 47, 47, 119, 119, 119, 46, 119, 51, 46, 111, 114, 103, 47, 50, 48, 48, 49, 47, 88, 77, 76, 83, 99, 104, 101, 109, 97, 35, 115, 116, 114, 105, 110, 103]⟩, .string ⟨#[]⟩] 34); have hr11 : RowAt ((w3.alloc (.cells #[.int .i64 0, .int .i64 0] 125)).alloc (.cells #[.int .i64 3, .string (B t), .string ⟨#[104, 116, 116, 112, 58, 47, 47, 119, 119, 119, 46, 119, 51, 46, 111, 114, 103, 47, 50, 48, 48, 49, 47, 88, 77, 76, 83, 99, 104, 101, 109, 97, 35, 115, 116, 114, 105, 110, 103]⟩, .string ⟨#[]⟩] 34)) (w3.heap.size + 1) [.int .i64 3, .string (B t), .string ⟨#[104, 116, 116, 112, 58, 47, 47, 119, 119, 119, 46, 119, 51, 46, 111, 114, 103, 47, 50, 48, 48, 49, 47, 88, 77, 76, 83, 99, 104, 101, 109, 97, 35, 115, 116, 114, 105, 110, 103]⟩, .string ⟨#[]⟩] := (row11 w3 t); have HR11 := hid hr11; clear hb0 hb1 hr11; have HM3 := hid (HM2.out.below hb); clear hb)
        | (go_at_call 173; (with_reducible refine (TG.out _).mono ?_); rintro e w4 ⟨rfl, hb⟩; have HM4 := hid (HM3.out.below hb); obtain ⟨⟨t0, t1, t2, t3, r0, r1, r2, r3⟩, c0, c1, f0, f1, hg, hg2⟩ := HM4.out.all; obtain ⟨d0, d1, d2, d3, g0, g1, g2, g3⟩ := (rowAt_below HR11.out hb).four; have hg11 : w3.heap.size + 1 < w4.heap.size := World.block_lt_of_cell? _ _ d0; clear hb))
       go_region
       all_goals
        go_wp2_with fail
        refine bodyPost_ret (v := .tuple #[.agg #[.int .i64 0, .string ⟨#[]⟩, .string ⟨#[]⟩, .string ⟨#[]⟩], .int .i64 0, .agg #[.int .i64 (p : Int), .int .i64 c]]) (by simp [results, Tryz.results128, go_sem, t0, t1, t2, t3, c0, c1, hg, hg2]) rfl ?_
        rw [HE.out]
        refine ⟨rfl, ?_⟩
        have hbb := HM4.out.b
        have hbs := hbb.size
        repeat (first | (with_reducible exact hbb) | (with_reducible refine Below.drew ?_) | (with_reducible refine Below.setCell ?_ (by first | (simp; done) | (simp; omega)) _) | (with_reducible refine Below.alloc ?_ (by first | (simp; done) | (simp; omega)) _))
     | inl f =>
      obtain ⟨lang, m⟩ := f
      have TG : Hid (∀ u, Calls Tryz.prog 173 #[.string (B l), .int .i64 ((n : Int) + 1)] u fun x w' => x = .returned (.tuple #[.string (B lang), .int .i64 (m : Int), .agg #[.int .i64 0, .int .i64 0]]) /\ Below u.heap.size u w') := hid (fun u => refTagAt_ok hq u hl hlt)
      have HE : Hid (litAt l i = .inl (⟨3, t, tagged, lang⟩, m)) := hid (by rw [HZ.out, hq])
      clear HZ hq
      focus
       go_enter Tryz.func128, Tryz.ntmps128
       go_wp2_with (first
        | (go_at_call 172; (with_reducible refine (QT.out _).mono ?_); rintro e w2 ⟨rfl, hb0⟩; have hb := hb0.alloc hb0.size (.cells #[.int .i64 0, .int .i64 0] 42); clear hb0; have HM2 := hid (HM0.out.below hb); clear hb)
        | (go_at_call 171; rw [HCUT.out]; (with_reducible refine (UN.out _).mono ?_); rintro e w3 ⟨rfl, hb0⟩; obtain ⟨nn0, nn1, nn2, nn3, nn4⟩ := ne_four (HM2.out.below hb0).ltf; have hb1 := hb0.alloc hb0.size (.cells #[.int .i64 0, .int .i64 0] 125); have hb := hb1.alloc hb1.size (.cells #[.int .i64 3, .string (B t), .string ⟨#[104, 116, 116, 112, 58, 47, 47, 119, 119, 119, 46, 119, 51, 46, 111, 114, 103, 47, 50, 48, 48, 49, 47, 88, 77, 76, 83, 99, 104, 101, 109, 97, 35, 115, 116, 114, 105, 110, 103]⟩, .string ⟨#[]⟩] 34); have hr11 : RowAt ((w3.alloc (.cells #[.int .i64 0, .int .i64 0] 125)).alloc (.cells #[.int .i64 3, .string (B t), .string ⟨#[104, 116, 116, 112, 58, 47, 47, 119, 119, 119, 46, 119, 51, 46, 111, 114, 103, 47, 50, 48, 48, 49, 47, 88, 77, 76, 83, 99, 104, 101, 109, 97, 35, 115, 116, 114, 105, 110, 103]⟩, .string ⟨#[]⟩] 34)) (w3.heap.size + 1) [.int .i64 3, .string (B t), .string ⟨#[104, 116, 116, 112, 58, 47, 47, 119, 119, 119, 46, 119, 51, 46, 111, 114, 103, 47, 50, 48, 48, 49, 47, 88, 77, 76, 83, 99, 104, 101, 109, 97, 35, 115, 116, 114, 105, 110, 103]⟩, .string ⟨#[]⟩] := (row11 w3 t); have HR11 := hid hr11; clear hb0 hb1 hr11; have HM3 := hid (HM2.out.below hb); clear hb)
        | (go_at_call 173; (with_reducible refine (TG.out _).mono ?_); rintro e w4 ⟨rfl, hb⟩; have HM4 := hid (HM3.out.below hb); obtain ⟨⟨t0, t1, t2, t3, r0, r1, r2, r3⟩, c0, c1, f0, f1, hg, hg2⟩ := HM4.out.all; obtain ⟨d0, d1, d2, d3, g0, g1, g2, g3⟩ := (rowAt_below HR11.out hb).four; have hg11 : w3.heap.size + 1 < w4.heap.size := World.block_lt_of_cell? _ _ d0; clear hb))
       refine bodyPost_ret (v := .tuple #[.agg #[.int .i64 3, .string (B t), .string ⟨#[104, 116, 116, 112, 58, 47, 47, 119, 119, 119, 46, 119, 51, 46, 111, 114, 103, 47, 49, 57, 57, 57, 47, 48, 50, 47, 50, 50, 45, 114, 100, 102, 45, 115, 121, 110, 116, 97, 120, 45, 110, 115, 35, 108, 97, 110, 103, 83, 116, 114, 105, 110, 103]⟩, .string (B lang)], .int .i64 (m : Int), .agg #[.int .i64 0, .int .i64 0]]) (by simp [results, Tryz.results128, go_sem, t0, t1, t2, t3, c0, c1, hg, hg2]) rfl ?_
       rw [HE.out]
       refine ⟨rfl, ?_⟩
       have hbb := HM4.out.b
       have hbs := hbb.size
       repeat (first | (with_reducible exact hbb) | (with_reducible refine Below.drew ?_) | (with_reducible refine Below.setCell ?_ (by first | (simp; done) | (simp; omega)) _) | (with_reducible refine Below.alloc ?_ (by first | (simp; done) | (simp; omega)) _))
    have q68 : ((l[n + 1].toNat : Int) == 64) = false := byte_ne (d := 64) h64
    by_cases hcc : l[n + 1] = 94 /\ l.getD (n + 2) 0 = 94
    ·have hlt2 : n + 2 < l.length := getD_lt hcc.2 (by decide)
     have hgk : l.getD (n + 2) 0 = l[n + 1 + 1] := by simp [List.getD, hlt2]
     have q92 : decide ((n : Int) + 1 + 1 < (l.length : Int)) = true := decide_eq_true (by omega)
     have k2 : 0 <= (n : Int) + 1 + 1 := by omega
     have k3 : (n : Int) + 1 + 1 < (l.length : Int) := by omega
     have q97 : ((l[n + 1].toNat : Int) == 94) = true := byte_eq (d := 94) hcc.1
     have q104 : ((l[n + 1 + 1].toNat : Int) == 94) = true := byte_eq (d := 94) (by rw [<- hgk]; exact hcc.2)
     have HZ : Hid (litAt l i = match iriAt l (n + 1 + 2) with
      | .inr f => .inr f
      | .inl (ty, m) => if ty = tagged then .inr (n + 1, 71) else .inl (⟨3, t, ty, []⟩, m)) := hid (by rw [HY.out]; unfold behindF; rw [if_neg (by rw [hgn]; exact h64), if_pos ⟨by rw [hgn]; exact hcc.1, hcc.2⟩]; rfl)
     clear HY h64 hgn hcc hgk
     cases hq : iriAt l (n + 1 + 2) with
     | inr f =>
      obtain ⟨p, c⟩ := f
      have e0 := iriAt_err hq
      have TG : Hid (∀ u, Calls Tryz.prog 127 #[.string (B l), .int .i64 ((n : Int) + 1 + 2)] u fun x w' => x = .returned (.tuple #[.string ⟨#[]⟩, .int .i64 0, .agg #[.int .i64 (p : Int), .int .i64 c]]) /\ Below u.heap.size u w') := hid (fun u => refIri_bad hq u hl (by omega))
      have HE : Hid (litAt l i = .inr (p, c)) := hid (by rw [HZ.out, hq])
      clear HZ hq
      focus
       go_enter Tryz.func128, Tryz.ntmps128
       go_wp2_with (first
        | (go_at_call 172; (with_reducible refine (QT.out _).mono ?_); rintro e w2 ⟨rfl, hb0⟩; have hb := hb0.alloc hb0.size (.cells #[.int .i64 0, .int .i64 0] 42); clear hb0; have HM2 := hid (HM0.out.below hb); clear hb)
        | (go_at_call 171; rw [HCUT.out]; (with_reducible refine (UN.out _).mono ?_); rintro e w3 ⟨rfl, hb0⟩; obtain ⟨nn0, nn1, nn2, nn3, nn4⟩ := ne_four (HM2.out.below hb0).ltf; have hb1 := hb0.alloc hb0.size (.cells #[.int .i64 0, .int .i64 0] 125); have hb := hb1.alloc hb1.size (.cells #[.int .i64 3, .string (B t), .string ⟨#[104, 116, 116, 112, 58, 47, 47, 119, 119, 119, 46, 119, 51, 46, 111, 114, 103, 47, 50, 48, 48, 49, 47, 88, 77, 76, 83, 99, 104, 101, 109, 97, 35, 115, 116, 114, 105, 110, 103]⟩, .string ⟨#[]⟩] 34); have hr11 : RowAt ((w3.alloc (.cells #[.int .i64 0, .int .i64 0] 125)).alloc (.cells #[.int .i64 3, .string (B t), .string ⟨#[104, 116, 116, 112, 58, 47, 47, 119, 119, 119, 46, 119, 51, 46, 111, 114, 103, 47, 50, 48, 48, 49, 47, 88, 77, 76, 83, 99, 104, 101, 109, 97, 35, 115, 116, 114, 105, 110, 103]⟩, .string ⟨#[]⟩] 34)) (w3.heap.size + 1) [.int .i64 3, .string (B t), .string ⟨#[104, 116, 116, 112, 58, 47, 47, 119, 119, 119, 46, 119, 51, 46, 111, 114, 103, 47, 50, 48, 48, 49, 47, 88, 77, 76, 83, 99, 104, 101, 109, 97, 35, 115, 116, 114, 105, 110, 103]⟩, .string ⟨#[]⟩] := (row11 w3 t); have HR11 := hid hr11; clear hb0 hb1 hr11; have HM3 := hid (HM2.out.below hb); clear hb)
        | (go_at_call 127; (with_reducible refine (TG.out _).mono ?_); rintro e w4 ⟨rfl, hb⟩; have HM4 := hid (HM3.out.below hb); obtain ⟨⟨t0, t1, t2, t3, r0, r1, r2, r3⟩, c0, c1, f0, f1, hg, hg2⟩ := HM4.out.all; obtain ⟨d0, d1, d2, d3, g0, g1, g2, g3⟩ := (rowAt_below HR11.out hb).four; have hg11 : w3.heap.size + 1 < w4.heap.size := World.block_lt_of_cell? _ _ d0; clear hb))
       go_region
       all_goals
        go_wp2_with fail
        refine bodyPost_ret (v := .tuple #[.agg #[.int .i64 0, .string ⟨#[]⟩, .string ⟨#[]⟩, .string ⟨#[]⟩], .int .i64 0, .agg #[.int .i64 (p : Int), .int .i64 c]]) (by simp [results, Tryz.results128, go_sem, t0, t1, t2, t3, c0, c1, hg, hg2]) rfl ?_
        rw [HE.out]
        refine ⟨rfl, ?_⟩
        have hbb := HM4.out.b
        have hbs := hbb.size
        repeat (first | (with_reducible exact hbb) | (with_reducible refine Below.drew ?_) | (with_reducible refine Below.setCell ?_ (by first | (simp; done) | (simp; omega)) _) | (with_reducible refine Below.alloc ?_ (by first | (simp; done) | (simp; omega)) _))
     | inl f =>
      obtain ⟨ty, m⟩ := f
      have TG : Hid (∀ u, Calls Tryz.prog 127 #[.string (B l), .int .i64 ((n : Int) + 1 + 2)] u fun x w' => x = .returned (.tuple #[.string (B ty), .int .i64 (m : Int), .agg #[.int .i64 0, .int .i64 0]]) /\ Below u.heap.size u w') := hid (fun u => refIri_ok hq u hl (by omega))
      rw [hq] at HZ
      simp only at HZ
      clear hq
      by_cases hty : ty = tagged
      ·have q120 : (ty == [104, 116, 116, 112, 58, 47, 47, 119, 119, 119, 46, 119, 51, 46, 111, 114, 103, 47, 49, 57, 57, 57, 47, 48, 50, 47, 50, 50, 45, 114, 100, 102, 45, 115, 121, 110, 116, 97, 120, 45, 110, 115, 35, 108, 97, 110, 103, 83, 116, 114, 105, 110, 103]) = true := beq_iff_eq.2 hty
       have HE : Hid (litAt l i = .inr (n + 1, 71)) := hid (by rw [HZ.out, if_pos hty])
       clear HZ hty
       focus
        go_enter Tryz.func128, Tryz.ntmps128
        go_wp2_with (first
         | (go_at_call 172; (with_reducible refine (QT.out _).mono ?_); rintro e w2 ⟨rfl, hb0⟩; have hb := hb0.alloc hb0.size (.cells #[.int .i64 0, .int .i64 0] 42); clear hb0; have HM2 := hid (HM0.out.below hb); clear hb)
         | (go_at_call 171; rw [HCUT.out]; (with_reducible refine (UN.out _).mono ?_); rintro e w3 ⟨rfl, hb0⟩; obtain ⟨nn0, nn1, nn2, nn3, nn4⟩ := ne_four (HM2.out.below hb0).ltf; have hb1 := hb0.alloc hb0.size (.cells #[.int .i64 0, .int .i64 0] 125); have hb := hb1.alloc hb1.size (.cells #[.int .i64 3, .string (B t), .string ⟨#[104, 116, 116, 112, 58, 47, 47, 119, 119, 119, 46, 119, 51, 46, 111, 114, 103, 47, 50, 48, 48, 49, 47, 88, 77, 76, 83, 99, 104, 101, 109, 97, 35, 115, 116, 114, 105, 110, 103]⟩, .string ⟨#[]⟩] 34); have hr11 : RowAt ((w3.alloc (.cells #[.int .i64 0, .int .i64 0] 125)).alloc (.cells #[.int .i64 3, .string (B t), .string ⟨#[104, 116, 116, 112, 58, 47, 47, 119, 119, 119, 46, 119, 51, 46, 111, 114, 103, 47, 50, 48, 48, 49, 47, 88, 77, 76, 83, 99, 104, 101, 109, 97, 35, 115, 116, 114, 105, 110, 103]⟩, .string ⟨#[]⟩] 34)) (w3.heap.size + 1) [.int .i64 3, .string (B t), .string ⟨#[104, 116, 116, 112, 58, 47, 47, 119, 119, 119, 46, 119, 51, 46, 111, 114, 103, 47, 50, 48, 48, 49, 47, 88, 77, 76, 83, 99, 104, 101, 109, 97, 35, 115, 116, 114, 105, 110, 103]⟩, .string ⟨#[]⟩] := (row11 w3 t); have HR11 := hid hr11; clear hb0 hb1 hr11; have HM3 := hid (HM2.out.below hb); clear hb)
         | (go_at_call 127; (with_reducible refine (TG.out _).mono ?_); rintro e w4 ⟨rfl, hb⟩; have HM4 := hid (HM3.out.below hb); obtain ⟨⟨t0, t1, t2, t3, r0, r1, r2, r3⟩, c0, c1, f0, f1, hg, hg2⟩ := HM4.out.all; obtain ⟨d0, d1, d2, d3, g0, g1, g2, g3⟩ := (rowAt_below HR11.out hb).four; have hg11 : w3.heap.size + 1 < w4.heap.size := World.block_lt_of_cell? _ _ d0; clear hb))
        refine bodyPost_ret (v := .tuple #[.agg #[.int .i64 0, .string ⟨#[]⟩, .string ⟨#[]⟩, .string ⟨#[]⟩], .int .i64 0, .agg #[.int .i64 ((n : Int) + 1), .int .i64 71]]) (by simp [results, Tryz.results128, go_sem, t0, t1, t2, t3, c0, c1, hg, hg2]) rfl ?_
        rw [HE.out]
        refine ⟨rfl, ?_⟩
        have hbb := HM4.out.b
        have hbs := hbb.size
        repeat (first | (with_reducible exact hbb) | (with_reducible refine Below.drew ?_) | (with_reducible refine Below.setCell ?_ (by first | (simp; done) | (simp; omega)) _) | (with_reducible refine Below.alloc ?_ (by first | (simp; done) | (simp; omega)) _))
      ·have q120 : (ty == [104, 116, 116, 112, 58, 47, 47, 119, 119, 119, 46, 119, 51, 46, 111, 114, 103, 47, 49, 57, 57, 57, 47, 48, 50, 47, 50, 50, 45, 114, 100, 102, 45, 115, 121, 110, 116, 97, 120, 45, 110, 115, 35, 108, 97, 110, 103, 83, 116, 114, 105, 110, 103]) = false := beq_eq_false_iff_ne.2 hty
       have HE : Hid (litAt l i = .inl (⟨3, t, ty, []⟩, m)) := hid (by rw [HZ.out, if_neg hty])
       clear HZ hty
       focus
        go_enter Tryz.func128, Tryz.ntmps128
        go_wp2_with (first
         | (go_at_call 172; (with_reducible refine (QT.out _).mono ?_); rintro e w2 ⟨rfl, hb0⟩; have hb := hb0.alloc hb0.size (.cells #[.int .i64 0, .int .i64 0] 42); clear hb0; have HM2 := hid (HM0.out.below hb); clear hb)
         | (go_at_call 171; rw [HCUT.out]; (with_reducible refine (UN.out _).mono ?_); rintro e w3 ⟨rfl, hb0⟩; obtain ⟨nn0, nn1, nn2, nn3, nn4⟩ := ne_four (HM2.out.below hb0).ltf; have hb1 := hb0.alloc hb0.size (.cells #[.int .i64 0, .int .i64 0] 125); have hb := hb1.alloc hb1.size (.cells #[.int .i64 3, .string (B t), .string ⟨#[104, 116, 116, 112, 58, 47, 47, 119, 119, 119, 46, 119, 51, 46, 111, 114, 103, 47, 50, 48, 48, 49, 47, 88, 77, 76, 83, 99, 104, 101, 109, 97, 35, 115, 116, 114, 105, 110, 103]⟩, .string ⟨#[]⟩] 34); have hr11 : RowAt ((w3.alloc (.cells #[.int .i64 0, .int .i64 0] 125)).alloc (.cells #[.int .i64 3, .string (B t), .string ⟨#[104, 116, 116, 112, 58, 47, 47, 119, 119, 119, 46, 119, 51, 46, 111, 114, 103, 47, 50, 48, 48, 49, 47, 88, 77, 76, 83, 99, 104, 101, 109, 97, 35, 115, 116, 114, 105, 110, 103]⟩, .string ⟨#[]⟩] 34)) (w3.heap.size + 1) [.int .i64 3, .string (B t), .string ⟨#[104, 116, 116, 112, 58, 47, 47, 119, 119, 119, 46, 119, 51, 46, 111, 114, 103, 47, 50, 48, 48, 49, 47, 88, 77, 76, 83, 99, 104, 101, 109, 97, 35, 115, 116, 114, 105, 110, 103]⟩, .string ⟨#[]⟩] := (row11 w3 t); have HR11 := hid hr11; clear hb0 hb1 hr11; have HM3 := hid (HM2.out.below hb); clear hb)
         | (go_at_call 127; (with_reducible refine (TG.out _).mono ?_); rintro e w4 ⟨rfl, hb⟩; have HM4 := hid (HM3.out.below hb); obtain ⟨⟨t0, t1, t2, t3, r0, r1, r2, r3⟩, c0, c1, f0, f1, hg, hg2⟩ := HM4.out.all; obtain ⟨d0, d1, d2, d3, g0, g1, g2, g3⟩ := (rowAt_below HR11.out hb).four; have hg11 : w3.heap.size + 1 < w4.heap.size := World.block_lt_of_cell? _ _ d0; clear hb))
        refine bodyPost_ret (v := .tuple #[.agg #[.int .i64 3, .string (B t), .string (B ty), .string ⟨#[]⟩], .int .i64 (m : Int), .agg #[.int .i64 0, .int .i64 0]]) (by simp [results, Tryz.results128, go_sem, t0, t1, t2, t3, c0, c1, hg, hg2]) rfl ?_
        rw [HE.out]
        refine ⟨rfl, ?_⟩
        have hbb := HM4.out.b
        have hbs := hbb.size
        repeat (first | (with_reducible exact hbb) | (with_reducible refine Below.drew ?_) | (with_reducible refine Below.setCell ?_ (by first | (simp; done) | (simp; omega)) _) | (with_reducible refine Below.alloc ?_ (by first | (simp; done) | (simp; omega)) _))
    have HE : Hid (litAt l i = .inl (⟨3, t, plainT, []⟩, n + 1)) := hid (by rw [HY.out]; unfold behindF; rw [if_neg (by rw [hgn]; exact h64), if_neg (by rw [hgn]; exact hcc)])
    by_cases h94 : l[n + 1] = 94
    ·have q97 : ((l[n + 1].toNat : Int) == 94) = true := byte_eq (d := 94) h94
     by_cases he2 : l.length <= n + 2
     ·have q92 : decide ((n : Int) + 1 + 1 < (l.length : Int)) = false := decide_eq_false (by omega)
      clear HY hcc h64 h94 hgn
      focus
       go_enter Tryz.func128, Tryz.ntmps128
       go_wp2_with (first
        | (go_at_call 172; (with_reducible refine (QT.out _).mono ?_); rintro e w2 ⟨rfl, hb0⟩; have hb := hb0.alloc hb0.size (.cells #[.int .i64 0, .int .i64 0] 42); clear hb0; have HM2 := hid (HM0.out.below hb); clear hb)
        | (go_at_call 171; rw [HCUT.out]; (with_reducible refine (UN.out _).mono ?_); rintro e w3 ⟨rfl, hb0⟩; obtain ⟨nn0, nn1, nn2, nn3, nn4⟩ := ne_four (HM2.out.below hb0).ltf; have hb1 := hb0.alloc hb0.size (.cells #[.int .i64 0, .int .i64 0] 125); have hb := hb1.alloc hb1.size (.cells #[.int .i64 3, .string (B t), .string ⟨#[104, 116, 116, 112, 58, 47, 47, 119, 119, 119, 46, 119, 51, 46, 111, 114, 103, 47, 50, 48, 48, 49, 47, 88, 77, 76, 83, 99, 104, 101, 109, 97, 35, 115, 116, 114, 105, 110, 103]⟩, .string ⟨#[]⟩] 34); have hr11 : RowAt ((w3.alloc (.cells #[.int .i64 0, .int .i64 0] 125)).alloc (.cells #[.int .i64 3, .string (B t), .string ⟨#[104, 116, 116, 112, 58, 47, 47, 119, 119, 119, 46, 119, 51, 46, 111, 114, 103, 47, 50, 48, 48, 49, 47, 88, 77, 76, 83, 99, 104, 101, 109, 97, 35, 115, 116, 114, 105, 110, 103]⟩, .string ⟨#[]⟩] 34)) (w3.heap.size + 1) [.int .i64 3, .string (B t), .string ⟨#[104, 116, 116, 112, 58, 47, 47, 119, 119, 119, 46, 119, 51, 46, 111, 114, 103, 47, 50, 48, 48, 49, 47, 88, 77, 76, 83, 99, 104, 101, 109, 97, 35, 115, 116, 114, 105, 110, 103]⟩, .string ⟨#[]⟩] := (row11 w3 t); have HR11 := hid hr11; clear hb0 hb1 hr11; have HM3 := hid (HM2.out.below hb); clear hb; obtain ⟨⟨t0, t1, t2, t3, r0, r1, r2, r3⟩, c0, c1, f0, f1, hg, hg2⟩ := HM3.out.all; have hh := HR11.out.four; obtain ⟨d0, d1, d2, d3, g0, g1, g2, g3⟩ := hh))
       refine bodyPost_ret (v := .tuple #[.agg #[.int .i64 3, .string (B t), .string ⟨#[104, 116, 116, 112, 58, 47, 47, 119, 119, 119, 46, 119, 51, 46, 111, 114, 103, 47, 50, 48, 48, 49, 47, 88, 77, 76, 83, 99, 104, 101, 109, 97, 35, 115, 116, 114, 105, 110, 103]⟩, .string ⟨#[]⟩], .int .i64 ((n : Int) + 1), .agg #[.int .i64 0, .int .i64 0]]) (by simp [results, Tryz.results128, go_sem, t0, t1, t2, t3, c0, c1]) rfl ?_
       rw [HE.out]
       refine ⟨rfl, ?_⟩
       have hbb := HM3.out.b
       have hbs := hbb.size
       repeat (first | (with_reducible exact hbb) | (with_reducible refine Below.drew ?_) | (with_reducible refine Below.setCell ?_ (by first | (simp; done) | (simp; omega)) _) | (with_reducible refine Below.alloc ?_ (by first | (simp; done) | (simp; omega)) _))
     ·have hlt2 : n + 1 + 1 < l.length := by omega
      have hgk : l.getD (n + 2) 0 = l[n + 1 + 1] := by simp [List.getD, hlt2]
      have q92 : decide ((n : Int) + 1 + 1 < (l.length : Int)) = true := decide_eq_true (by omega)
      have k2 : 0 <= (n : Int) + 1 + 1 := by omega
      have k3 : (n : Int) + 1 + 1 < (l.length : Int) := by omega
      have q104 : ((l[n + 1 + 1].toNat : Int) == 94) = false := byte_ne (d := 94) (fun h => hcc ⟨h94, by rw [hgk]; exact h⟩)
      clear HY hcc h64 h94 hgn hgk he2
      focus
       go_enter Tryz.func128, Tryz.ntmps128
       go_wp2_with (first
        | (go_at_call 172; (with_reducible refine (QT.out _).mono ?_); rintro e w2 ⟨rfl, hb0⟩; have hb := hb0.alloc hb0.size (.cells #[.int .i64 0, .int .i64 0] 42); clear hb0; have HM2 := hid (HM0.out.below hb); clear hb)
        | (go_at_call 171; rw [HCUT.out]; (with_reducible refine (UN.out _).mono ?_); rintro e w3 ⟨rfl, hb0⟩; obtain ⟨nn0, nn1, nn2, nn3, nn4⟩ := ne_four (HM2.out.below hb0).ltf; have hb1 := hb0.alloc hb0.size (.cells #[.int .i64 0, .int .i64 0] 125); have hb := hb1.alloc hb1.size (.cells #[.int .i64 3, .string (B t), .string ⟨#[104, 116, 116, 112, 58, 47, 47, 119, 119, 119, 46, 119, 51, 46, 111, 114, 103, 47, 50, 48, 48, 49, 47, 88, 77, 76, 83, 99, 104, 101, 109, 97, 35, 115, 116, 114, 105, 110, 103]⟩, .string ⟨#[]⟩] 34); have hr11 : RowAt ((w3.alloc (.cells #[.int .i64 0, .int .i64 0] 125)).alloc (.cells #[.int .i64 3, .string (B t), .string ⟨#[104, 116, 116, 112, 58, 47, 47, 119, 119, 119, 46, 119, 51, 46, 111, 114, 103, 47, 50, 48, 48, 49, 47, 88, 77, 76, 83, 99, 104, 101, 109, 97, 35, 115, 116, 114, 105, 110, 103]⟩, .string ⟨#[]⟩] 34)) (w3.heap.size + 1) [.int .i64 3, .string (B t), .string ⟨#[104, 116, 116, 112, 58, 47, 47, 119, 119, 119, 46, 119, 51, 46, 111, 114, 103, 47, 50, 48, 48, 49, 47, 88, 77, 76, 83, 99, 104, 101, 109, 97, 35, 115, 116, 114, 105, 110, 103]⟩, .string ⟨#[]⟩] := (row11 w3 t); have HR11 := hid hr11; clear hb0 hb1 hr11; have HM3 := hid (HM2.out.below hb); clear hb; obtain ⟨⟨t0, t1, t2, t3, r0, r1, r2, r3⟩, c0, c1, f0, f1, hg, hg2⟩ := HM3.out.all; have hh := HR11.out.four; obtain ⟨d0, d1, d2, d3, g0, g1, g2, g3⟩ := hh))
       refine bodyPost_ret (v := .tuple #[.agg #[.int .i64 3, .string (B t), .string ⟨#[104, 116, 116, 112, 58, 47, 47, 119, 119, 119, 46, 119, 51, 46, 111, 114, 103, 47, 50, 48, 48, 49, 47, 88, 77, 76, 83, 99, 104, 101, 109, 97, 35, 115, 116, 114, 105, 110, 103]⟩, .string ⟨#[]⟩], .int .i64 ((n : Int) + 1), .agg #[.int .i64 0, .int .i64 0]]) (by simp [results, Tryz.results128, go_sem, t0, t1, t2, t3, c0, c1]) rfl ?_
       rw [HE.out]
       refine ⟨rfl, ?_⟩
       have hbb := HM3.out.b
       have hbs := hbb.size
       repeat (first | (with_reducible exact hbb) | (with_reducible refine Below.drew ?_) | (with_reducible refine Below.setCell ?_ (by first | (simp; done) | (simp; omega)) _) | (with_reducible refine Below.alloc ?_ (by first | (simp; done) | (simp; omega)) _))
    ·have q97 : ((l[n + 1].toNat : Int) == 94) = false := byte_ne (d := 94) h94
     by_cases he2 : l.length <= n + 2
     ·have q92 : decide ((n : Int) + 1 + 1 < (l.length : Int)) = false := decide_eq_false (by omega)
      clear HY hcc h64 h94 hgn
      focus
       go_enter Tryz.func128, Tryz.ntmps128
       go_wp2_with (first
        | (go_at_call 172; (with_reducible refine (QT.out _).mono ?_); rintro e w2 ⟨rfl, hb0⟩; have hb := hb0.alloc hb0.size (.cells #[.int .i64 0, .int .i64 0] 42); clear hb0; have HM2 := hid (HM0.out.below hb); clear hb)
        | (go_at_call 171; rw [HCUT.out]; (with_reducible refine (UN.out _).mono ?_); rintro e w3 ⟨rfl, hb0⟩; obtain ⟨nn0, nn1, nn2, nn3, nn4⟩ := ne_four (HM2.out.below hb0).ltf; have hb1 := hb0.alloc hb0.size (.cells #[.int .i64 0, .int .i64 0] 125); have hb := hb1.alloc hb1.size (.cells #[.int .i64 3, .string (B t), .string ⟨#[104, 116, 116, 112, 58, 47, 47, 119, 119, 119, 46, 119, 51, 46, 111, 114, 103, 47, 50, 48, 48, 49, 47, 88, 77, 76, 83, 99, 104, 101, 109, 97, 35, 115, 116, 114, 105, 110, 103]⟩, .string ⟨#[]⟩] 34); have hr11 : RowAt ((w3.alloc (.cells #[.int .i64 0, .int .i64 0] 125)).alloc (.cells #[.int .i64 3, .string (B t), .string ⟨#[104, 116, 116, 112, 58, 47, 47, 119, 119, 119, 46, 119, 51, 46, 111, 114, 103, 47, 50, 48, 48, 49, 47, 88, 77, 76, 83, 99, 104, 101, 109, 97, 35, 115, 116, 114, 105, 110, 103]⟩, .string ⟨#[]⟩] 34)) (w3.heap.size + 1) [.int .i64 3, .string (B t), .string ⟨#[104, 116, 116, 112, 58, 47, 47, 119, 119, 119, 46, 119, 51, 46, 111, 114, 103, 47, 50, 48, 48, 49, 47, 88, 77, 76, 83, 99, 104, 101, 109, 97, 35, 115, 116, 114, 105, 110, 103]⟩, .string ⟨#[]⟩] := (row11 w3 t); have HR11 := hid hr11; clear hb0 hb1 hr11; have HM3 := hid (HM2.out.below hb); clear hb; obtain ⟨⟨t0, t1, t2, t3, r0, r1, r2, r3⟩, c0, c1, f0, f1, hg, hg2⟩ := HM3.out.all; have hh := HR11.out.four; obtain ⟨d0, d1, d2, d3, g0, g1, g2, g3⟩ := hh))
       refine bodyPost_ret (v := .tuple #[.agg #[.int .i64 3, .string (B t), .string ⟨#[104, 116, 116, 112, 58, 47, 47, 119, 119, 119, 46, 119, 51, 46, 111, 114, 103, 47, 50, 48, 48, 49, 47, 88, 77, 76, 83, 99, 104, 101, 109, 97, 35, 115, 116, 114, 105, 110, 103]⟩, .string ⟨#[]⟩], .int .i64 ((n : Int) + 1), .agg #[.int .i64 0, .int .i64 0]]) (by simp [results, Tryz.results128, go_sem, t0, t1, t2, t3, c0, c1]) rfl ?_
       rw [HE.out]
       refine ⟨rfl, ?_⟩
       have hbb := HM3.out.b
       have hbs := hbb.size
       repeat (first | (with_reducible exact hbb) | (with_reducible refine Below.drew ?_) | (with_reducible refine Below.setCell ?_ (by first | (simp; done) | (simp; omega)) _) | (with_reducible refine Below.alloc ?_ (by first | (simp; done) | (simp; omega)) _))
     ·have q92 : decide ((n : Int) + 1 + 1 < (l.length : Int)) = true := decide_eq_true (by omega)
      have k2 : 0 <= (n : Int) + 1 + 1 := by omega
      clear HY hcc h64 h94 hgn he2
      focus
       go_enter Tryz.func128, Tryz.ntmps128
       go_wp2_with (first
        | (go_at_call 172; (with_reducible refine (QT.out _).mono ?_); rintro e w2 ⟨rfl, hb0⟩; have hb := hb0.alloc hb0.size (.cells #[.int .i64 0, .int .i64 0] 42); clear hb0; have HM2 := hid (HM0.out.below hb); clear hb)
        | (go_at_call 171; rw [HCUT.out]; (with_reducible refine (UN.out _).mono ?_); rintro e w3 ⟨rfl, hb0⟩; obtain ⟨nn0, nn1, nn2, nn3, nn4⟩ := ne_four (HM2.out.below hb0).ltf; have hb1 := hb0.alloc hb0.size (.cells #[.int .i64 0, .int .i64 0] 125); have hb := hb1.alloc hb1.size (.cells #[.int .i64 3, .string (B t), .string ⟨#[104, 116, 116, 112, 58, 47, 47, 119, 119, 119, 46, 119, 51, 46, 111, 114, 103, 47, 50, 48, 48, 49, 47, 88, 77, 76, 83, 99, 104, 101, 109, 97, 35, 115, 116, 114, 105, 110, 103]⟩, .string ⟨#[]⟩] 34); have hr11 : RowAt ((w3.alloc (.cells #[.int .i64 0, .int .i64 0] 125)).alloc (.cells #[.int .i64 3, .string (B t), .string ⟨#[104, 116, 116, 112, 58, 47, 47, 119, 119, 119, 46, 119, 51, 46, 111, 114, 103, 47, 50, 48, 48, 49, 47, 88, 77, 76, 83, 99, 104, 101, 109, 97, 35, 115, 116, 114, 105, 110, 103]⟩, .string ⟨#[]⟩] 34)) (w3.heap.size + 1) [.int .i64 3, .string (B t), .string ⟨#[104, 116, 116, 112, 58, 47, 47, 119, 119, 119, 46, 119, 51, 46, 111, 114, 103, 47, 50, 48, 48, 49, 47, 88, 77, 76, 83, 99, 104, 101, 109, 97, 35, 115, 116, 114, 105, 110, 103]⟩, .string ⟨#[]⟩] := (row11 w3 t); have HR11 := hid hr11; clear hb0 hb1 hr11; have HM3 := hid (HM2.out.below hb); clear hb; obtain ⟨⟨t0, t1, t2, t3, r0, r1, r2, r3⟩, c0, c1, f0, f1, hg, hg2⟩ := HM3.out.all; have hh := HR11.out.four; obtain ⟨d0, d1, d2, d3, g0, g1, g2, g3⟩ := hh))
       refine bodyPost_ret (v := .tuple #[.agg #[.int .i64 3, .string (B t), .string ⟨#[104, 116, 116, 112, 58, 47, 47, 119, 119, 119, 46, 119, 51, 46, 111, 114, 103, 47, 50, 48, 48, 49, 47, 88, 77, 76, 83, 99, 104, 101, 109, 97, 35, 115, 116, 114, 105, 110, 103]⟩, .string ⟨#[]⟩], .int .i64 ((n : Int) + 1), .agg #[.int .i64 0, .int .i64 0]]) (by simp [results, Tryz.results128, go_sem, t0, t1, t2, t3, c0, c1]) rfl ?_
       rw [HE.out]
       refine ⟨rfl, ?_⟩
       have hbb := HM3.out.b
       have hbs := hbb.size
       repeat (first | (with_reducible exact hbb) | (with_reducible refine Below.drew ?_) | (with_reducible refine Below.setCell ?_ (by first | (simp; done) | (simp; omega)) _) | (with_reducible refine Below.alloc ?_ (by first | (simp; done) | (simp; omega)) _))
end Go.Proofs.YtdegonmkikfghaaGreatDoor
namespace Go.Proofs.YtdegonmkikfghaaGreatDoor
open Lib (hid)
open Go.RowKit
set_option maxRecDepth 100000
theorem refLit_bad {l : List UInt8} {i p : Nat} {e : Int} (h : litAt l i = .inr (p, e)) (w : World) (hl : l.length <= 4194304) (hi : i < l.length) : Calls Tryz.prog 128 #[.string (B l), .int .i64 (i : Int)] w fun x w' => x = .returned (.tuple #[.agg #[.int .i64 0, .string ⟨#[]⟩, .string ⟨#[]⟩, .string ⟨#[]⟩], .int .i64 0, .agg #[.int .i64 (p : Int), .int .i64 e]]) /\ Below w.heap.size w w' := by
 have := refLit_l l i w hl hi
 rw [h] at this
 exact this
theorem refLit_ok {l : List UInt8} {i n : Nat} {t : TermL} (h : litAt l i = .inl (t, n)) (w : World) (hl : l.length <= 4194304) (hi : i < l.length) : Calls Tryz.prog 128 #[.string (B l), .int .i64 (i : Int)] w fun x w' => x = .returned (.tuple #[.agg #[.int .i64 t.kind, .string (B t.text), .string (B t.type), .string (B t.lang)], .int .i64 (n : Int), .agg #[.int .i64 0, .int .i64 0]]) /\ Below w.heap.size w w' := by
 have := refLit_l l i w hl hi
 rw [h] at this
 exact this
set_option maxHeartbeats 12000000 in
theorem refNext7_l (l : List UInt8) (i : Nat) (w : World) (hl : l.length <= 4194304) (hi : i < l.length) :
  Calls Tryz.prog 90 #[.string (B l), .int .i64 (i : Int)] w fun e w' => e = .returned (termNV (termAt l i)) /\ Below w.heap.size w w' := by
 have HM0 := hid (nxMem_new w)
 have i0 : 0 <= (i : Int) := by omega
 have i1 : (i : Int) < (l.length : Int) := by omega
 have p1 : decide ((i : Int) < 0) = false := decide_eq_false (by omega)
 have p2 : decide ((l.length : Int) < (i : Int)) = false := decide_eq_false (by omega)
 have p3 : ((i : Int) == (l.length : Int)) = false := beq_eq_false_iff_ne.2 (by omega)
 have hgd : l.getD i 0 = l[i] := by simp [List.getD, hi]
 by_cases h60 : l[i] = 60
 ·have p4 : ((l[i].toNat : Int) == 60) = true := byte_eq (d := 60) h60
  have HX : Hid (termAt l i = match iriAt l i with
   | .inr f => .inr f
   | .inl (t, n) => .inl (⟨1, t, [], []⟩, n)) := hid (by unfold termAt; rw [if_pos (by rw [hgd]; exact h60)]; rfl)
  clear h60 hgd
  cases hq : iriAt l i with
  | inr f =>
   obtain ⟨p, e⟩ := f
   have e0 : (e != 0) = true := bne_iff_ne.2 (iriAt_bad (by omega) hq).2
   have QT := hid (fun u => refIri_bad hq u hl (by omega))
   have HE : Hid (termAt l i = .inr (p, e)) := hid (by rw [HX.out, hq])
   clear hq HX
   focus
    go_enter Tryz.func90, Tryz.ntmps90
    go_wp2_with (go_at_call 127; (with_reducible refine (QT.out _).mono ?_); rintro e w2 ⟨rfl, hb⟩; have HM2 := hid (HM0.out.below hb); obtain ⟨⟨t0, t1, t2, t3, r0, r1, r2, r3⟩, c0, c1, f0, f1, hg, hg2⟩ := HM2.out.all; clear hb)
    go_region
    all_goals
     go_wp2_with fail
     refine bodyPost_ret (v := .tuple #[.agg #[.int .i64 0, .string ⟨#[]⟩, .string ⟨#[]⟩, .string ⟨#[]⟩], .int .i64 0, .agg #[.int .i64 (p : Int), .int .i64 e]]) (by simp [results, Tryz.results90, go_sem, t0, t1, t2, t3, c0, c1, hg, hg2]) rfl ?_
     rw [HE.out]
     refine ⟨rfl, ?_⟩
     have hbb := HM2.out.b
     have hbs := hbb.size
     repeat (first | (with_reducible exact hbb) | (with_reducible exact Below.refl _ _) | (with_reducible refine Below.drew ?_) | (with_reducible refine Below.setCell ?_ (by first | (simp; done) | (simp; omega)) _) | (with_reducible refine Below.alloc ?_ (by first | (simp; done) | (simp; omega)) _))
  | inl f =>
   obtain ⟨t, n⟩ := f
   have QT := hid (fun u => refIri_ok hq u hl (by omega))
   have HE : Hid (termAt l i = .inl (⟨1, t, [], []⟩, n)) := hid (by rw [HX.out, hq])
   clear hq HX
   focus
    go_enter Tryz.func90, Tryz.ntmps90
    go_wp2_with (go_at_call 127; (with_reducible refine (QT.out _).mono ?_); rintro e w2 ⟨rfl, hb⟩; have HM2 := hid (HM0.out.below hb); obtain ⟨⟨t0, t1, t2, t3, r0, r1, r2, r3⟩, c0, c1, f0, f1, hg, hg2⟩ := HM2.out.all; clear hb)
    refine bodyPost_ret (v := .tuple #[.agg #[.int .i64 1, .string (B t), .string ⟨#[]⟩, .string ⟨#[]⟩], .int .i64 (n : Int), .agg #[.int .i64 0, .int .i64 0]]) (by simp [results, Tryz.results90, go_sem, t0, t1, t2, t3, c0, c1, hg, hg2]) rfl ?_
    rw [HE.out]
    refine ⟨rfl, ?_⟩
    have hbb := HM2.out.b
    have hbs := hbb.size
    repeat (first | (with_reducible exact hbb) | (with_reducible exact Below.refl _ _) | (with_reducible refine Below.drew ?_) | (with_reducible refine Below.setCell ?_ (by first | (simp; done) | (simp; omega)) _) | (with_reducible refine Below.alloc ?_ (by first | (simp; done) | (simp; omega)) _))
 have p4 : ((l[i].toNat : Int) == 60) = false := byte_ne (d := 60) h60
 have h60' : ¬ l.getD i 0 = 60 := by rw [hgd]; exact h60
 clear h60
 by_cases h34 : l[i] = 34
 ·have p5 : ((l[i].toNat : Int) == 34) = true := byte_eq (d := 34) h34
  have HX : Hid (termAt l i = litAt l i) := hid (by unfold termAt; rw [if_neg h60', if_pos (by rw [hgd]; exact h34)])
  clear h60' h34 hgd
  cases hq : litAt l i with
  | inr f =>
   obtain ⟨p, e⟩ := f
   have QT := hid (fun u => refLit_bad hq u hl hi)
   have HE : Hid (termAt l i = .inr (p, e)) := hid (by rw [HX.out, hq])
   clear hq HX
   focus
    go_enter Tryz.func90, Tryz.ntmps90
    go_wp2_with (go_at_call 128; (with_reducible refine (QT.out _).mono ?_); rintro e w2 ⟨rfl, hb⟩; have HM2 := hid (HM0.out.below hb); obtain ⟨⟨t0, t1, t2, t3, r0, r1, r2, r3⟩, c0, c1, f0, f1, hg, hg2⟩ := HM2.out.all; clear hb)
    refine bodyPost_ret (v := .tuple #[.agg #[.int .i64 0, .string ⟨#[]⟩, .string ⟨#[]⟩, .string ⟨#[]⟩], .int .i64 0, .agg #[.int .i64 (p : Int), .int .i64 e]]) (by simp [results, Tryz.results90, go_sem, t0, t1, t2, t3, c0, c1]) rfl ?_
    rw [HE.out]
    refine ⟨rfl, ?_⟩
    have hbb := HM2.out.b
    have hbs := hbb.size
    repeat (first | (with_reducible exact hbb) | (with_reducible exact Below.refl _ _) | (with_reducible refine Below.drew ?_) | (with_reducible refine Below.setCell ?_ (by first | (simp; done) | (simp; omega)) _) | (with_reducible refine Below.alloc ?_ (by first | (simp; done) | (simp; omega)) _))
  | inl f =>
   obtain ⟨t, n⟩ := f
   have QT := hid (fun u => refLit_ok hq u hl hi)
   have HE : Hid (termAt l i = .inl (t, n)) := hid (by rw [HX.out, hq])
   clear hq HX
   focus
    go_enter Tryz.func90, Tryz.ntmps90
    go_wp2_with (go_at_call 128; (with_reducible refine (QT.out _).mono ?_); rintro e w2 ⟨rfl, hb⟩; have HM2 := hid (HM0.out.below hb); obtain ⟨⟨t0, t1, t2, t3, r0, r1, r2, r3⟩, c0, c1, f0, f1, hg, hg2⟩ := HM2.out.all; clear hb)
    refine bodyPost_ret (v := .tuple #[.agg #[.int .i64 t.kind, .string (B t.text), .string (B t.type), .string (B t.lang)], .int .i64 (n : Int), .agg #[.int .i64 0, .int .i64 0]]) (by simp [results, Tryz.results90, go_sem, t0, t1, t2, t3, c0, c1]) rfl ?_
    rw [HE.out]
    refine ⟨rfl, ?_⟩
    have hbb := HM2.out.b
    have hbs := hbb.size
    repeat (first | (with_reducible exact hbb) | (with_reducible exact Below.refl _ _) | (with_reducible refine Below.drew ?_) | (with_reducible refine Below.setCell ?_ (by first | (simp; done) | (simp; omega)) _) | (with_reducible refine Below.alloc ?_ (by first | (simp; done) | (simp; omega)) _))
 have p5 : ((l[i].toNat : Int) == 34) = false := byte_ne (d := 34) h34
 have h34' : ¬ l.getD i 0 = 34 := by rw [hgd]; exact h34
 clear h34
 by_cases h95 : l[i] = 95
 case neg =>
  have p6 : ((l[i].toNat : Int) == 95) = false := byte_ne (d := 95) h95
  have HE : Hid (termAt l i = .inr (i, 90)) := hid (by unfold termAt; rw [if_neg h60', if_neg h34', if_neg (by rw [hgd]; exact h95)])
  obtain ⟨⟨t0, t1, t2, t3, r0, r1, r2, r3⟩, c0, c1, f0, f1, hg, hg2⟩ := HM0.out.all
  clear h60' h34' h95 hgd
  focus
   go_enter Tryz.func90, Tryz.ntmps90
   go_wp2_with fail
   refine bodyPost_ret (v := .tuple #[.agg #[.int .i64 0, .string ⟨#[]⟩, .string ⟨#[]⟩, .string ⟨#[]⟩], .int .i64 0, .agg #[.int .i64 (i : Int), .int .i64 90]]) (by simp [results, Tryz.results90, go_sem]) rfl ?_
   rw [HE.out]
   refine ⟨rfl, ?_⟩
   have hbb := HM0.out.b
   have hbs := hbb.size
   repeat (first | (with_reducible exact hbb) | (with_reducible exact Below.refl _ _) | (with_reducible refine Below.drew ?_) | (with_reducible refine Below.setCell ?_ (by first | (simp; done) | (simp; omega)) _) | (with_reducible refine Below.alloc ?_ (by first | (simp; done) | (simp; omega)) _))
 have p6 : ((l[i].toNat : Int) == 95) = true := byte_eq (d := 95) h95
 have HX : Hid (termAt l i = blankAt l i) := hid (by unfold termAt; rw [if_neg h60', if_neg h34', if_pos (by rw [hgd]; exact h95)])
 clear h60' h34' h95 hgd
 have HB : Hid (blankAt l i = if l.getD (i + 1) 0 ≠ 58 then .inr (i + 1, 90) else if runF labelB l (i + 2 : Nat) = 0 then .inr (i + 2, 60) else if 65536 < runF labelB l (i + 2 : Nat) then .inr (i, 2) else .inl (⟨2, cutF l (i + 2) (i + 2 + runF labelB l (i + 2 : Nat)), [], []⟩, i + 2 + runF labelB l (i + 2 : Nat))) := hid rfl
 have hrun := run_ok (l := l) (b := i + 2)
 have LA := hid (fun u => refLabelAt_l l ((i : Int) + 2) u (by omega) (by omega))
 rw [show ((i + 2 : Nat) : Int) = (i : Int) + 2 by omega] at hrun HB
 obtain ⟨n, hn⟩ : ∃ n, runF labelB l ((i : Int) + 2) = n := ⟨_, rfl⟩
 rw [hn] at LA HB hrun
 clear hn
 by_cases h1 : l.length <= i + 1
 ·have e1 : decide ((l.length : Int) <= (i : Int) + 1) = true := decide_eq_true (by omega)
  have HE : Hid (termAt l i = .inr (i + 1, 90)) := hid (by rw [HX.out, HB.out, if_pos (by simp [List.getD, h1])])
  obtain ⟨⟨t0, t1, t2, t3, r0, r1, r2, r3⟩, c0, c1, f0, f1, hg, hg2⟩ := HM0.out.all
  clear h1 HB HX hrun
  focus
   go_enter Tryz.func90, Tryz.ntmps90
   go_wp2_with fail
   refine bodyPost_ret (v := .tuple #[.agg #[.int .i64 0, .string ⟨#[]⟩, .string ⟨#[]⟩, .string ⟨#[]⟩], .int .i64 0, .agg #[.int .i64 ((i : Int) + 1), .int .i64 90]]) (by simp [results, Tryz.results90, go_sem]) rfl ?_
   rw [HE.out]
   refine ⟨rfl, ?_⟩
   have hbb := HM0.out.b
   have hbs := hbb.size
   repeat (first | (with_reducible exact hbb) | (with_reducible exact Below.refl _ _) | (with_reducible refine Below.drew ?_) | (with_reducible refine Below.setCell ?_ (by first | (simp; done) | (simp; omega)) _) | (with_reducible refine Below.alloc ?_ (by first | (simp; done) | (simp; omega)) _))
 have e1 : decide ((l.length : Int) <= (i : Int) + 1) = false := decide_eq_false (by omega)
 have hlt : i + 1 < l.length := by omega
 have hltI : (i : Int) + 1 < (l.length : Int) := by omega
 have hltJ : 0 <= (i : Int) + 1 := by omega
 have hg1 : l.getD (i + 1) 0 = l[i + 1] := by simp [List.getD, hlt]
 by_cases h58 : l[i + 1] = 58
 case neg =>
  have e2 : ((l[i + 1].toNat : Int) != 58) = true := byte_nei (d := 58) h58
  have HE : Hid (termAt l i = .inr (i + 1, 90)) := hid (by rw [HX.out, HB.out, if_pos (by rw [hg1]; exact h58)])
  obtain ⟨⟨t0, t1, t2, t3, r0, r1, r2, r3⟩, c0, c1, f0, f1, hg, hg2⟩ := HM0.out.all
  clear h1 hg1 HB HX hrun h58
  focus
   go_enter Tryz.func90, Tryz.ntmps90
   go_wp2_with fail
   refine bodyPost_ret (v := .tuple #[.agg #[.int .i64 0, .string ⟨#[]⟩, .string ⟨#[]⟩, .string ⟨#[]⟩], .int .i64 0, .agg #[.int .i64 ((i : Int) + 1), .int .i64 90]]) (by simp [results, Tryz.results90, go_sem]) rfl ?_
   rw [HE.out]
   refine ⟨rfl, ?_⟩
   have hbb := HM0.out.b
   have hbs := hbb.size
   repeat (first | (with_reducible exact hbb) | (with_reducible exact Below.refl _ _) | (with_reducible refine Below.drew ?_) | (with_reducible refine Below.setCell ?_ (by first | (simp; done) | (simp; omega)) _) | (with_reducible refine Below.alloc ?_ (by first | (simp; done) | (simp; omega)) _))
 have e2 : ((l[i + 1].toNat : Int) != 58) = false := byte_eqi (d := 58) h58
 rw [if_neg (by rw [hg1, h58]; simp)] at HB
 clear h1 hg1 h58
 by_cases h0 : n = 0
 ·have e3 : ((n : Int) == 0) = true := by rw [h0]; rfl
  have HE : Hid (termAt l i = .inr (i + 2, 60)) := hid (by rw [HX.out, HB.out, if_pos h0])
  clear HB HX hrun h0
  focus
   go_enter Tryz.func90, Tryz.ntmps90
   go_wp2_with (go_at_call 129; (with_reducible refine (LA.out _).mono ?_); rintro e w2 ⟨rfl, hb⟩; have HM2 := hid (HM0.out.below hb); obtain ⟨⟨t0, t1, t2, t3, r0, r1, r2, r3⟩, c0, c1, f0, f1, hg, hg2⟩ := HM2.out.all; clear hb)
   refine bodyPost_ret (v := .tuple #[.agg #[.int .i64 0, .string ⟨#[]⟩, .string ⟨#[]⟩, .string ⟨#[]⟩], .int .i64 0, .agg #[.int .i64 ((i : Int) + 2), .int .i64 60]]) (by simp [results, Tryz.results90, go_sem, t0, t1, t2, t3, c0, c1]) rfl ?_
   rw [HE.out]
   refine ⟨rfl, ?_⟩
   have hbb := HM2.out.b
   have hbs := hbb.size
   repeat (first | (with_reducible exact hbb) | (with_reducible exact Below.refl _ _) | (with_reducible refine Below.drew ?_) | (with_reducible refine Below.setCell ?_ (by first | (simp; done) | (simp; omega)) _) | (with_reducible refine Below.alloc ?_ (by first | (simp; done) | (simp; omega)) _))
 have e3 : ((n : Int) == 0) = false := beq_eq_false_iff_ne.2 (by omega)
 rw [if_neg h0] at HB
 have hle := (hrun h0).1
 clear hrun
 by_cases hbig : 65536 < n
 ·have e4 : decide ((65536 : Int) < (n : Int)) = true := decide_eq_true (by omega)
  have HE : Hid (termAt l i = .inr (i, 2)) := hid (by rw [HX.out, HB.out, if_pos hbig])
  clear HB HX h0 hbig hle
  focus
   go_enter Tryz.func90, Tryz.ntmps90
   go_wp2_with (go_at_call 129; (with_reducible refine (LA.out _).mono ?_); rintro e w2 ⟨rfl, hb⟩; have HM2 := hid (HM0.out.below hb); obtain ⟨⟨t0, t1, t2, t3, r0, r1, r2, r3⟩, c0, c1, f0, f1, hg, hg2⟩ := HM2.out.all; clear hb)
   refine bodyPost_ret (v := .tuple #[.agg #[.int .i64 0, .string ⟨#[]⟩, .string ⟨#[]⟩, .string ⟨#[]⟩], .int .i64 0, .agg #[.int .i64 (i : Int), .int .i64 2]]) (by simp [results, Tryz.results90, go_sem, t0, t1, t2, t3, c0, c1]) rfl ?_
   rw [HE.out]
   refine ⟨rfl, ?_⟩
   have hbb := HM2.out.b
   have hbs := hbb.size
   repeat (first | (with_reducible exact hbb) | (with_reducible exact Below.refl _ _) | (with_reducible refine Below.drew ?_) | (with_reducible refine Below.setCell ?_ (by first | (simp; done) | (simp; omega)) _) | (with_reducible refine Below.alloc ?_ (by first | (simp; done) | (simp; omega)) _))
 have e4 : decide ((65536 : Int) < (n : Int)) = false := decide_eq_false (by omega)
 have HE : Hid (termAt l i = .inl (⟨2, (l.drop (i + 2)).take n, [], []⟩, i + 2 + n)) := hid (by rw [HX.out, HB.out, if_neg hbig]; unfold cutF; rw [Nat.add_sub_cancel_left])
 clear HB HX h0 hbig
 focus
  go_enter Tryz.func90, Tryz.ntmps90
  go_wp2_with (go_at_call 129; (with_reducible refine (LA.out _).mono ?_); rintro e w2 ⟨rfl, hb⟩; have HM2 := hid (HM0.out.below hb); obtain ⟨⟨t0, t1, t2, t3, r0, r1, r2, r3⟩, c0, c1, f0, f1, hg, hg2⟩ := HM2.out.all; clear hb)
  refine bodyPost_ret (v := .tuple #[.agg #[.int .i64 2, .string (B ((l.drop (i + 2)).take n)), .string ⟨#[]⟩, .string ⟨#[]⟩], .int .i64 ((i : Int) + 2 + (n : Int)), .agg #[.int .i64 0, .int .i64 0]]) (by simp [results, Tryz.results90, go_sem, t0, t1, t2, t3, c0, c1]) rfl ?_
  rw [HE.out]
  refine ⟨rfl, ?_⟩
  have hbb := HM2.out.b
  have hbs := hbb.size
  repeat (first | (with_reducible exact hbb) | (with_reducible exact Below.refl _ _) | (with_reducible refine Below.drew ?_) | (with_reducible refine Below.setCell ?_ (by first | (simp; done) | (simp; omega)) _) | (with_reducible refine Below.alloc ?_ (by first | (simp; done) | (simp; omega)) _))
end Go.Proofs.YtdegonmkikfghaaGreatDoor
