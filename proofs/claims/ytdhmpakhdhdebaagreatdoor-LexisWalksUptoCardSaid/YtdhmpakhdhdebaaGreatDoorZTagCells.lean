/-
  A tag's cells. By an AI agent.
-/
import Derived.Test.YtdhmpakhdhdebaaGreatDoorZKeep
namespace Go.Proofs.YtdhmpakhdhdebaaGreatDoor
open Go.Lib (hid)
open Go.RowKit
set_option maxRecDepth 100000
def tagCells (t : TagL) (a1 a2 : Option Addr) (c1 c2 : Nat) : Array Value := #[.string (B t.lang), .string (B t.ext), .string (B t.script), .string (B t.region), .slice a1 t.vars.length c1, .slice a2 t.exts.length c2, .string (B t.priv)]
theorem new_cell {w w' : World} {cs : Array Value} {T : TypeId} (h : Below (w.alloc (.cells cs T)).heap.size (w.alloc (.cells cs T)) w') (k : Nat) (x : Value) (hx : cs[k]? = some x) : w'.cell? ⟨w.heap.size, k, none⟩ = some x := by
 rw [h.cell (p := ⟨w.heap.size, k, none⟩) (by simp), World.cell?_alloc_new]
 exact hx
theorem new_frozen {w w' : World} {cs : Array Value} {T : TypeId} (h : Below (w.alloc (.cells cs T)).heap.size (w.alloc (.cells cs T)) w') (k : Nat) : w'.frozen? ⟨w.heap.size, k, none⟩ = false := by
 rw [h.frozen (p := ⟨w.heap.size, k, none⟩) (by simp)]
 simp
end Go.Proofs.YtdhmpakhdhdebaaGreatDoor
namespace Go.Proofs.YtdhmpakhdhdebaaGreatDoor
open Go.Lib (hid)
open Go.RowKit
set_option maxRecDepth 100000
def MaxAt (w : World) : Prop := ∃ m, w.cell? ⟨1, 0, none⟩ = some (.int .i64 m)
theorem MaxAt.below {w w' : World} (h : MaxAt w) (hb : Below w.heap.size w w') : MaxAt w' := by
 obtain ⟨m, hm⟩ := h
 exact ⟨m, by rw [hb.cell (p := ⟨1, 0, none⟩) (World.block_lt_of_cell? _ _ hm)]; exact hm⟩
theorem split_v (l x : List UInt8) (xs : List (List UInt8)) (h : partsOf l = x :: xs) (w : World) (hm : MaxAt w) (hl : l.length <= 16777216) :
  Calls Tryz.prog 145 #[.string (B l), .string { data := #[45] }] w fun e w' => ∃ b o cap, e = .returned (.slice (some ⟨b, o, none⟩) (xs.length + 1) cap) /\ View w' (.slice (some ⟨b, o, none⟩) (xs.length + 1) cap) (x :: xs) /\ Below w.heap.size w w' := by
 obtain ⟨m, hm⟩ := hm
 refine (Tryz.strings_Split (B l) ⟨#[45]⟩ m w (by rw [B_size]; omega) hm (by decide)).mono ?_
 rintro e w' ⟨rfl, rfl⟩
 obtain ⟨h1, h2⟩ := split_parts l
 rw [h] at h1 h2
 rw [h2]
 exact ⟨_, _, _, rfl, View.of_alloc w _ _ _ h1 _ rfl, (Below.refl _ w).alloc (Nat.le_refl _) _⟩
end Go.Proofs.YtdhmpakhdhdebaaGreatDoor
namespace Go.Proofs.YtdhmpakhdhdebaaGreatDoor
open Go.Lib (hid)
open Go.RowKit
set_option maxRecDepth 100000
def TagPost (w w' : World) (e : Ending) : Option TagL -> Prop
 | none => e = .returned (.tuple #[.agg (tagCells noTag none none 0 0), .int .i64 61]) /\ Below w.heap.size w w'
 | some t => ∃ a1 a2 c1 c2, e = .returned (.tuple #[.agg (tagCells t a1 a2 c1 c2), .int .i64 0]) /\ Below w.heap.size w w' /\ w'.ownsRow w.heap.size 9 1 (.slice a1 t.vars.length c1) t.vars.length (t.vars.map strV) /\
   w'.ownsRow w.heap.size 9 1 (.slice a2 t.exts.length c2) t.exts.length (t.exts.map strV) /\ Apart (.slice a1 t.vars.length c1) (.slice a2 t.exts.length c2)
theorem partsOf_mem_len : ∀ (l : List UInt8), ∀ p ∈ partsOf l, p.length <= l.length
 | [], p, hp => by simp [partsOf] at hp; subst hp; simp
 | x :: r, p, hp => by
  have ih := partsOf_mem_len r
  unfold partsOf at hp
  split at hp
  ·rcases List.mem_cons.1 hp with rfl | hp
   ·simp
   ·have := ih p hp; simp; omega
  ·split at hp
   ·next h t e =>
    rcases List.mem_cons.1 hp with rfl | hp
    ·have := ih h (by rw [e]; simp); simp; omega
    ·have := ih p (by rw [e]; simp [hp]); simp; omega
   ·obtain rfl : p = [x] := by simpa using hp
    simp
theorem ownsRow_mono {w : World} {base base' : Nat} {e : TypeId} {v : Value} {n : Nat} {xs : List Value} (h : w.ownsRow base' e 1 v n xs) (hb : base <= base') : w.ownsRow base e 1 v n xs := by
 refine ⟨h.1, ?_⟩
 rcases h.2 with hn | ⟨g, cap, cur, hv, hg, rest⟩
 ·exact .inl hn
 ·exact .inr ⟨g, cap, cur, hv, Nat.le_trans hb hg, rest⟩
theorem ext3_mem : ∀ (n : Nat) (ps : List (List UInt8)), (ext3 n ps).2.length <= ps.length /\ ∀ p ∈ (ext3 n ps).2, p ∈ ps
 | 0, ps => ⟨Nat.le_refl _, fun p hp => hp⟩
 | _ + 1, [] => ⟨Nat.le_refl _, fun p hp => hp⟩
 | n + 1, p :: r => by
  have ih := ext3_mem n r
  cases h : madeB p 3 3 true with
  | true => rw [ext3, if_pos h]; exact ⟨by simp; omega, fun q hq => List.mem_cons_of_mem _ (ih.2 q hq)⟩
  | false => rw [ext3, if_neg (by rw [h]; simp)]; exact ⟨Nat.le_refl _, fun q hq => hq⟩
theorem langF_mem {ps : List (List UInt8)} {l e : List UInt8} {r : List (List UInt8)} (h : langF ps = some (l, e, r)) : r.length <= ps.length /\ ∀ p ∈ r, p ∈ ps := by
 rcases ps with _ | ⟨p, q⟩
 ·cases h
 ·cases hm : madeB p 2 8 true with
  | false => rw [langF, if_neg (by rw [hm]; simp)] at h; cases h
  | true =>
   rw [langF_yes hm] at h
   split at h
   ·cases h
    exact ⟨by simp, fun z hz => List.mem_cons_of_mem _ hz⟩
   ·cases h
    have := ext3_mem 3 q
    exact ⟨by simp; omega, fun z hz => List.mem_cons_of_mem _ (this.2 z hz)⟩
theorem varsF_mem : ∀ (ps seen : List (List UInt8)) (v : List (List UInt8) × List (List UInt8)), varsF seen ps = some v -> v.2.length <= ps.length /\ ∀ p ∈ v.2, p ∈ ps
 | [], seen, v, h => by rw [varsF] at h; cases h; exact ⟨Nat.le_refl _, fun p hp => hp⟩
 | p :: r, seen, v, h => by
  cases hm : variantB p with
  | false =>
   rw [varsF_no (show seesF variantB (p :: r) = false from hm)] at h
   cases h
   exact ⟨Nat.le_refl _, fun p hp => hp⟩
  | true =>
   cases hc : seen.contains (lowL p) with
   | true => rw [varsF_dup hm hc] at h; cases h
   | false =>
    rw [varsF_step hm hc] at h
    cases hv : varsF (seen ++ [lowL p]) r with
    | none => rw [hv] at h; cases h
    | some u =>
     rw [hv] at h
     cases h
     have ih := varsF_mem r _ u hv
     exact ⟨by simp; omega, fun z hz => List.mem_cons_of_mem _ (ih.2 z hz)⟩
theorem extsF_mem : ∀ (n : Nat) (ps seen : List (List UInt8)) (v : List (List UInt8) × List (List UInt8)), ps.length <= n -> extsF seen ps = some v -> v.2.length <= ps.length /\ ∀ p ∈ v.2, p ∈ ps
 | n, [], seen, v, _, h => by rw [extsF_no rfl] at h; cases h; exact ⟨Nat.le_refl _, fun p hp => hp⟩
 | 0, p :: r, seen, v, hn, h => by simp at hn
 | n + 1, p :: r, seen, v, hn, h => by
  cases hm : (madeB p 1 1 false && !privB p) with
  | false =>
   rw [extsF_no (show seesF (fun p => madeB p 1 1 false && !privB p) (p :: r) = false from hm)] at h
   cases h
   exact ⟨Nat.le_refl _, fun p hp => hp⟩
  | true =>
   by_cases hc : (tagTail 2 r).1 = [] \/ seen.contains (lowL p) = true
   ·rw [extsF_bad hm hc] at h; cases h
   ·rw [extsF_step hm hc] at h
    have hl := tagTail_len 2 r
    cases hv : extsF (seen ++ [lowL p]) (tagTail 2 r).2 with
    | none => rw [hv] at h; cases h
    | some u =>
     rw [hv] at h
     cases h
     have ih := extsF_mem n _ _ u (by simp at hn; omega) hv
     exact ⟨by simp; omega, fun z hz => List.mem_cons_of_mem _ (tagTail_mem 2 r z (ih.2 z hz))⟩
theorem restF_mem {lang ext : List UInt8} {ps r : List (List UInt8)} {t : TagL} (h : restF lang ext ps = some (t, r)) : t.priv = [] /\ t.lang = lang /\ t.ext = ext /\ r.length <= ps.length /\ ∀ p ∈ r, p ∈ ps := by
 unfold restF at h
 have h1 := oneF_len (fun p => madeB p 4 4 true) ps
 have h2 := oneF_len regionB (oneF (fun p => madeB p 4 4 true) ps).2
 simp only at h
 generalize (oneF (fun p => madeB p 4 4 true) ps) = a at *
 generalize oneF regionB a.2 = c at *
 cases hv : varsF [] c.2 with
 | none => rw [hv] at h; cases h
 | some v =>
  rw [hv] at h
  have h3 := varsF_mem _ _ _ hv
  simp only at h
  cases he : extsF (v.1.map lowL) v.2 with
  | none => rw [he] at h; cases h
  | some e =>
   rw [he] at h
   have h4 := extsF_mem _ _ _ _ (Nat.le_refl _) he
   cases h
   exact ⟨rfl, rfl, rfl, by omega, fun p hp => h1.2 p (h2.2 p (h3.2 p (h4.2 p hp)))⟩
def zeros7 : List Value := [.string ⟨#[]⟩, .string ⟨#[]⟩, .string ⟨#[]⟩, .string ⟨#[]⟩, .slice none 0 0, .slice none 0 0, .string ⟨#[]⟩]
def FrontOk (w wx : World) (b k : Nat) (t : TagL) (r : List (List UInt8)) : Prop :=
 ∃ lv vv ev, t.priv = [] /\ ViewAt wx k lv r /\ RowAt wx b [lv, .string (B t.lang), .string (B t.ext), .string (B t.script), .string (B t.region), vv, ev, .string ⟨#[]⟩] /\
  wx.ownsRow (b + 1) 9 1 vv t.vars.length (t.vars.map strV) /\ wx.ownsRow (b + 1) 9 1 ev t.exts.length (t.exts.map strV) /\ Apart vv ev /\ RowAt wx w.heap.size zeros7 /\ Below w.heap.size w wx
def FrontPost (w wx : World) (b k : Nat) (ps : List (List UInt8)) (s : Value) : Prop :=
 (s = .bool true /\ frontF ps = none /\ RowAt wx w.heap.size zeros7 /\ Below w.heap.size w wx) \/ (s = .bool false /\ ∃ t r, frontF ps = some (t, r) /\ (∀ p ∈ r, p.length <= 4194304) /\ r.length <= ps.length /\ FrontOk w wx b k t r)
theorem put7 {w : World} {g : Nat} {o0 o1 o2 o3 o4 o5 o6 : Value} (h : RowAt w g [o0, o1, o2, o3, o4, o5, o6]) (v0 v1 v2 v3 v4 v5 v6 : Value) :
  RowAt (((((((w.setCell ⟨g, 0, none⟩ v0).setCell ⟨g, 1, none⟩ v1).setCell ⟨g, 2, none⟩ v2).setCell ⟨g, 3, none⟩ v3).setCell ⟨g, 4, none⟩ v4).setCell ⟨g, 5, none⟩ v5).setCell ⟨g, 6, none⟩ v6) g [v0, v1, v2, v3, v4, v5, v6] /\
  w.grownBy (((((((w.setCell ⟨g, 0, none⟩ v0).setCell ⟨g, 1, none⟩ v1).setCell ⟨g, 2, none⟩ v2).setCell ⟨g, 3, none⟩ v3).setCell ⟨g, 4, none⟩ v4).setCell ⟨g, 5, none⟩ v5).setCell ⟨g, 6, none⟩ v6) (some g) :=
 ⟨((((((h.set (j := 0) (by simp) v0).set (j := 1) (by simp) v1).set (j := 2) (by simp) v2).set (j := 3) (by simp) v3).set (j := 4) (by simp) v4).set (j := 5) (by simp) v5).set (j := 6) (by simp) v6,
  grown_trans (grown_trans (grown_trans (grown_trans (grown_trans (grown_trans (grownBy_set w g 0 v0) (grownBy_set _ g 1 v1)) (grownBy_set _ g 2 v2)) (grownBy_set _ g 3 v3)) (grownBy_set _ g 4 v4)) (grownBy_set _ g 5 v5)) (grownBy_set _ g 6 v6)⟩
set_option maxHeartbeats 3200000 in
theorem tag_l (s : List UInt8) (w : World) (hM : MaxAt w) (hs : s.length <= 4194304) :
  Calls Tryz.prog 100 #[.string (B s)] w fun e w' => TagPost w w' e (tagF s) := by
 obtain ⟨x, xs, hx⟩ := List.exists_cons_of_ne_nil (partsOf_ne s)
 have SPL := hid (fun (w : World) (h : MaxAt w) => split_v s x xs hx w h (by omega))
 have HT : Hid (tagF s = tagP (x :: xs)) := hid (by unfold tagF; rw [hx])
 have HM := hid hM
 have HPS : Hid (∀ p ∈ x :: xs, p.length <= 4194304) := hid (fun p hp => Nat.le_trans (partsOf_mem_len s p (by rw [hx]; exact hp)) hs)
 have HPL : Hid ((x :: xs).length <= 4194305) := hid (by rw [<- hx]; exact Nat.le_trans (partsOf_length_le s) (by omega))
 clear hM hx
 go_enter Tryz.func100, Tryz.ntmps100
 go_upto_region 2 with (go_at_call 145; (with_reducible refine (SPL.out _ (HM.out.below ((Below.refl _ _).alloc (Nat.le_refl _) _))).mono ?_); rintro e w2 ⟨k, o, cap, rfl, hv, hb2⟩; have HV := hid hv; have HB2 := hid hb2; clear hv hb2)
 have hb2 := HB2.out
 have hv := HV.out
 generalize hW1 : w.alloc (.cells #[.string ⟨#[]⟩, .string ⟨#[]⟩, .string ⟨#[]⟩, .string ⟨#[]⟩, .slice none 0 0, .slice none 0 0, .string ⟨#[]⟩] 192) = W1 at hb2
 have z1 : RowAt W1 w.heap.size zeros7 := rowAt_of_heap (t := 192) (by rw [<- hW1]; exact heap_alloc_last _ _)
 have s1 : W1.heap.size = w.heap.size + 1 := by rw [<- hW1, World.size_alloc]
 have hb01 : Below w.heap.size w W1 := by rw [<- hW1]; exact (Below.refl _ _).alloc (Nat.le_refl _) _
 have hb02 : Below w.heap.size w w2 := hb01.trans (hb2.mono hb01.size)
 have hk2 : k < w2.heap.size := by
  obtain ⟨_, _, _, he, _, hc⟩ := hv
  injection he with h1 _ _
  injection h1 with h1
  injection h1 with h2 h3
  subst h2
  exact World.block_lt_of_cell? _ _ (hc 0 (by simp))
 have hb1s : W1.heap.size <= w2.heap.size := hb2.size
 have hva : ViewAt w2 k (.slice (some ⟨k, o, none⟩) (xs.length + 1) cap) (x :: xs) := by
  obtain ⟨b', o', cap', he, hc⟩ := hv
  injection he with h1 h4 h5
  injection h1 with h1
  injection h1 with h2 h3
  subst h2 h3 h5
  exact ⟨o, cap, rfl, hc⟩
 generalize hW3 : w2.alloc (.cells #[.slice (some ⟨k, o, none⟩) (xs.length + 1) cap, .string ⟨#[]⟩, .string ⟨#[]⟩, .string ⟨#[]⟩, .string ⟨#[]⟩, .slice none 0 0, .slice none 0 0, .string ⟨#[]⟩] 221) = W3
 have r3 : RowAt W3 w2.heap.size [.slice (some ⟨k, o, none⟩) (xs.length + 1) cap, .string ⟨#[]⟩, .string ⟨#[]⟩, .string ⟨#[]⟩, .string ⟨#[]⟩, .slice none 0 0, .slice none 0 0, .string ⟨#[]⟩] := rowAt_of_heap (t := 221) (by rw [<- hW3]; exact heap_alloc_last _ _)
 have hb23 : Below w2.heap.size w2 W3 := by rw [<- hW3]; exact (Below.refl _ _).alloc (Nat.le_refl _) _
 have hb03 : Below w.heap.size w W3 := hb02.trans (hb23.mono hb02.size)
 have z3 := (z1.below hb2 (by omega)).below hb23 (by omega)
 have hv3 := hva.below hb23
 have s3 : W3.heap.size = w2.heap.size + 1 := by rw [<- hW3, World.size_alloc]
 have hps : ∀ p ∈ x :: xs, p.length <= 4194304 := fun p hp => HPS.out p hp
 have hpsl : (x :: xs).length <= 4194305 := HPL.out
 have hkb : k ≠ w2.heap.size := by omega
 have hwb : w.heap.size < w2.heap.size := by omega
 have SP := hid (sees_priv w2.heap.size k (x :: xs) _ _ W3 hv3 r3 (fun p hp => Nat.le_trans (hps p hp) (by omega)))
 have LA : Hid (∀ u, Below W3.heap.size W3 u -> Calls Tryz.prog 148 #[.pointer (some ⟨w2.heap.size, 0, none⟩)] u fun e w' => LangPost u w' e w2.heap.size k [.string ⟨#[]⟩, .string ⟨#[]⟩, .slice none 0 0, .slice none 0 0, .string ⟨#[]⟩] (langF (x :: xs))) :=
  hid (fun u h => tlang_l w2.heap.size k (x :: xs) _ _ u (hv3.below h) (r3.below h (by omega)) hkb (by have := h.size; omega) (fun p hp => Nat.le_trans (hps p hp) (by omega)))
 have FR := hid (And.intro hv3 (And.intro r3 (And.intro z3 (And.intro hb03 hps))))
 clear hb2 hv hW1 z1 s1 hb01 hb02 hb1s hva hb23 hb03 z3 hv3 r3 hps HB2 HV HPS HPL
 clear hW3 s3
 go_cut [24] (fun s wx => FrontPost w wx w2.heap.size k (x :: xs) s)
 case first =>
  cases hq : seesF privB (x :: xs) with
  | true =>
   have hsp : seesPriv (x :: xs) = true := hq
   have HF : Hid (frontF (x :: xs) = some (noTag, x :: xs)) := hid (by unfold frontF; rw [if_pos hsp])
   rw [hq] at SP
   clear hq hsp LA
   go_wp2_with (go_at_call 146; (with_reducible refine SP.out.mono ?_); rintro e w4 ⟨rfl, hb4⟩; have HB4 := hid hb4; clear hb4)
   go_meet
   case rel =>
    obtain ⟨hv, hr, hz, hb, hps⟩ := FR.out
    have hb4 := HB4.out
    have hl3 : w2.heap.size < W3.heap.size := World.block_lt_of_cell? _ _ (row_of hr 0 _ rfl).1
    exact .inr ⟨rfl, noTag, x :: xs, HF.out, hps, Nat.le_refl _, _, _, _, rfl, hv.below hb4, hr.below hb4 hl3, World.ownsRow_nil _ _ _ _, World.ownsRow_nil _ _ _ _, Apart.nil_left _, hz.below hb4 (by omega), hb.trans (hb4.mono hb.size)⟩
  | false =>
   have hsp : ¬ seesPriv (x :: xs) = true := by
    have h : seesPriv (x :: xs) = false := hq
    rw [h]; simp
   rw [hq] at SP
   cases hl : langF (x :: xs) with
   | none =>
    have HF : Hid (frontF (x :: xs) = none) := hid (by unfold frontF; rw [if_neg hsp, hl])
    rw [hl] at LA
    clear hq hsp hl
    go_wp2_with (first
     | (go_at_call 146; (with_reducible refine SP.out.mono ?_); rintro e w4 ⟨rfl, hb4⟩; have HB4 := hid hb4; clear hb4)
     | (go_at_call 148; (with_reducible refine (LA.out w4 HB4.out).mono ?_); rintro e w5 ⟨rfl, hg5⟩; have HG5 := hid hg5; clear hg5)
     | fail)
    go_meet
    case rel =>
     obtain ⟨hv, hr, hz, hb, hps⟩ := FR.out
     have hb4 := HB4.out
     have hl3 : w2.heap.size < W3.heap.size := World.block_lt_of_cell? _ _ (row_of hr 0 _ rfl).1
     have hz4 := hz.below hb4 (by omega)
     have hb04 := hb.trans (hb4.mono hb.size)
     exact .inl ⟨rfl, HF.out, hz4.grown HG5.out (by simp; omega) (by have := hb04.size; have := hb4.size; omega), hb04.grown HG5.out hb04.size (fun j hj => by cases hj; omega)⟩
   | some q =>
    obtain ⟨l, e, r⟩ := q
    have HF : Hid (frontF (x :: xs) = restF l e r) := hid (by unfold frontF; rw [if_neg hsp, hl])
    rw [hl] at LA
    have hlm := langF_mem hl
    clear hq hsp hl
    go_wp2_with (first
     | (go_at_call 146; (with_reducible refine SP.out.mono ?_); rintro e w4 ⟨rfl, hb4⟩; have HB4 := hid hb4; clear hb4)
     | (go_at_call 148; (with_reducible refine (LA.out w4 HB4.out).mono ?_); rintro e w5 ⟨rfl, lv5, hv5, hr5, hg5⟩; have HX5 := hid (And.intro hv5 (And.intro hr5 hg5)); clear hv5 hr5 hg5)
     | fail)
    obtain ⟨hv, hr, hz, hb, hps⟩ := FR.out
    obtain ⟨hv5, hr5, hg5⟩ := HX5.out
    have hb4 := HB4.out
    have hl3 : w2.heap.size < W3.heap.size := World.block_lt_of_cell? _ _ (row_of hr 0 _ rfl).1
    have hz4 := hz.below hb4 (by omega)
    have hb04 := hb.trans (hb4.mono hb.size)
    have hs4 := hb4.size
    have hz5 := hz4.grown hg5 (by simp; omega) (by omega)
    have hb05 := hb04.grown hg5 hb04.size (fun j hj => by cases hj; omega)
    have hl5 : w2.heap.size < w5.heap.size := World.block_lt_of_cell? _ _ (row_of hr5 0 _ rfl).1
    have RS := trest_l w2.heap.size k r lv5 l e w5 hv5 hr5 hkb hl5 (by omega) (fun p hp => Nat.le_trans (hps p (hlm.2 p hp)) (by omega)) (by omega)
    have HX := hid (And.intro hz5 (And.intro hb05 (And.intro hl5 (And.intro hps hlm))))
    clear hv hr hz hb hps hv5 hr5 hg5 hb4 hl3 hz4 hb04 hs4 hz5 hb05 FR HX5 HB4 SP LA hlm
    cases hrf : restF l e r with
    | none =>
     rw [hrf] at RS HF
     have RS' := hid RS
     clear RS hrf
     refine RS'.out.mono ?_
     rintro e w6 ⟨rfl, hg6⟩
     have HG6 := hid hg6
     clear hg6
     go_wp2_with fail
     go_meet
     case rel =>
      obtain ⟨hz5, hb05, hl5, hps, hlm⟩ := HX.out
      exact .inl ⟨rfl, HF.out, hz5.grown HG6.out (by simp; omega) (by omega), hb05.grown HG6.out hb05.size (fun j hj => by cases hj; omega)⟩
    | some q =>
     obtain ⟨t, r2⟩ := q
     have hrm := restF_mem hrf
     rw [hrf] at RS HF
     have RS' := hid RS
     clear RS hrf
     refine RS'.out.mono ?_
     rintro e w6 ⟨rfl, hg6, lv6, vv, ev, hv6, hr6, ho6, hp6, ha6⟩
     have HG6 := hid (And.intro hg6 (And.intro hv6 (And.intro hr6 (And.intro ho6 (And.intro hp6 (And.intro ha6 hrm))))))
     clear hg6 hv6 hr6 ho6 hp6 ha6 hrm
     go_wp2_with fail
     go_meet
     case rel =>
      obtain ⟨hz5, hb05, hl5, hps, hlm⟩ := HX.out
      obtain ⟨hg6, hv6, hr6, ho6, hp6, ha6, hrm⟩ := HG6.out
      exact .inr ⟨rfl, t, r2, HF.out, fun p hp => hps p (hlm.2 p (hrm.2.2.2.2 p hp)), Nat.le_trans hrm.2.2.2.1 hlm.1, lv6, vv, ev, hrm.1, hv6, hr6, ownsRow_mono ho6 hl5, ownsRow_mono hp6 hl5, ha6, hz5.grown hg6 (by simp; omega) (by omega), hb05.grown hg6 hb05.size (fun j hj => by cases hj; omega)⟩
 case rest =>
  clear SP LA FR
  rcases hcut with ⟨rfl, hF, hz, hb⟩ | ⟨rfl, t, r, hF, hps, hrl, hOK⟩
  ·have HE : Hid (tagF s = none) := hid (by rw [HT.out]; unfold tagP; rw [hF])
   have HZ := hid (And.intro hz hb)
   have z0 := (row_of hz 0 _ rfl); have z1 := (row_of hz 1 _ rfl); have z2 := (row_of hz 2 _ rfl); have z3 := (row_of hz 3 _ rfl); have z4 := (row_of hz 4 _ rfl); have z5 := (row_of hz 5 _ rfl); have z6 := (row_of hz 6 _ rfl)
   clear hF hz hb
   go_wp2_with fail
   have P7 := put7 (show RowAt wc w.heap.size [.string ⟨#[]⟩, .string ⟨#[]⟩, .string ⟨#[]⟩, .string ⟨#[]⟩, .slice none 0 0, .slice none 0 0, .string ⟨#[]⟩] from HZ.out.1) (.string ⟨#[]⟩) (.string ⟨#[]⟩) (.string ⟨#[]⟩) (.string ⟨#[]⟩) (.slice none 0 0) (.slice none 0 0) (.string ⟨#[]⟩)
   have c0 := (row_of P7.1 0 _ rfl).1; have c1 := (row_of P7.1 1 _ rfl).1; have c2 := (row_of P7.1 2 _ rfl).1; have c3 := (row_of P7.1 3 _ rfl).1; have c4 := (row_of P7.1 4 _ rfl).1; have c5 := (row_of P7.1 5 _ rfl).1; have c6 := (row_of P7.1 6 _ rfl).1
   have hbe := HZ.out.2.grown P7.2 HZ.out.2.size (fun j hj => by cases hj; exact Nat.le_refl _)
   generalize (((((((wc.setCell ⟨w.heap.size, 0, none⟩ (.string ⟨#[]⟩)).setCell ⟨w.heap.size, 1, none⟩ (.string ⟨#[]⟩)).setCell ⟨w.heap.size, 2, none⟩ (.string ⟨#[]⟩)).setCell ⟨w.heap.size, 3, none⟩ (.string ⟨#[]⟩)).setCell ⟨w.heap.size, 4, none⟩ (.slice none 0 0)).setCell ⟨w.heap.size, 5, none⟩ (.slice none 0 0)).setCell ⟨w.heap.size, 6, none⟩ (.string ⟨#[]⟩)) = we at *
   refine bodyPost_ret (v := .tuple #[.agg (tagCells noTag none none 0 0), .int .i64 61]) (by simp [results, Tryz.results100, go_sem, c0, c1, c2, c3, c4, c5, c6, tagCells, noTag, B]) rfl ?_
   rw [HE.out]
   exact ⟨rfl, hbe⟩
  ·obtain ⟨lv, vv, ev, hpr, hv, hR, ho, hp, ha, hz, hb⟩ := hOK
   obtain ⟨a1, d1, rfl, _, _, _⟩ := ownsRow_at ho
   obtain ⟨a2, d2, rfl, _, _, _⟩ := ownsRow_at hp
   have hps' : ∀ p ∈ r, p.length <= 140737488351232 := fun p h => Nat.le_trans (hps p h) (by omega)
   have hbc : w2.heap.size < wc.heap.size := World.block_lt_of_cell? _ _ (row_of hR 0 _ rfl).1
   have hrl' : r.length <= 4194305 := Nat.le_trans hrl hpsl
   have SP := hid (sees_priv w2.heap.size k r _ _ wc hv hR hps')
   have HX := hid (And.intro hv (And.intro hR (And.intro ho (And.intro hp (And.intro ha (And.intro hz (And.intro hb (And.intro hpr hps))))))))
   clear hv hR ho hp ha hz hb hps hps' hrl hpsl hpr
   cases hq : seesF privB r with
   | false =>
    rw [hq] at SP
    rcases r with _ | ⟨p, r⟩
    ·have HE : Hid (tagF s = some t) := hid (by rw [HT.out]; unfold tagP; rw [hF])
     clear hF hq
     go_wp2_with (go_at_call 146; (with_reducible refine SP.out.mono ?_); rintro e w4 ⟨rfl, hb4⟩; obtain ⟨hv, hR, ho, hp, ha, hz, hb, hpr, hps⟩ := HX.out; have hb4 := hb4; have hR4 := hR.below hb4 hbc; have hz4 := hz.below hb4 (by omega); have HY := hid (And.intro (ownsRow_below ho hb4) (And.intro (ownsRow_below hp hb4) (And.intro hz4 (hb.trans (hb4.mono hb.size))))); obtain ⟨o5, e5, rfl⟩ := hv.empty; have y0 := (row_of hR4 0 _ rfl).1; have y1 := (row_of hR4 1 _ rfl).1; have y2 := (row_of hR4 2 _ rfl).1; have y3 := (row_of hR4 3 _ rfl).1; have y4 := (row_of hR4 4 _ rfl).1; have y5 := (row_of hR4 5 _ rfl).1; have y6 := (row_of hR4 6 _ rfl).1; have y7 := (row_of hR4 7 _ rfl).1; have z0 := (row_of hz4 0 _ rfl); have z1 := (row_of hz4 1 _ rfl); have z2 := (row_of hz4 2 _ rfl); have z3 := (row_of hz4 3 _ rfl); have z4 := (row_of hz4 4 _ rfl); have z5 := (row_of hz4 5 _ rfl); have z6 := (row_of hz4 6 _ rfl); have HA := hid (And.intro ha hpr); clear hv hR ho hp ha hz hb hps hR4 hz4 hb4 hpr)
     have P7 := put7 (show RowAt w4 w.heap.size [.string ⟨#[]⟩, .string ⟨#[]⟩, .string ⟨#[]⟩, .string ⟨#[]⟩, .slice none 0 0, .slice none 0 0, .string ⟨#[]⟩] from HY.out.2.2.1) (.string (B t.lang)) (.string (B t.ext)) (.string (B t.script)) (.string (B t.region)) (.slice a1 t.vars.length d1) (.slice a2 t.exts.length d2) (.string ⟨#[]⟩)
     have c0 := (row_of P7.1 0 _ rfl).1; have c1 := (row_of P7.1 1 _ rfl).1; have c2 := (row_of P7.1 2 _ rfl).1; have c3 := (row_of P7.1 3 _ rfl).1; have c4 := (row_of P7.1 4 _ rfl).1; have c5 := (row_of P7.1 5 _ rfl).1; have c6 := (row_of P7.1 6 _ rfl).1
     have hbe := (HY.out.2.2.2).grown P7.2 (HY.out.2.2.2).size (fun j hj => by cases hj; exact Nat.le_refl _)
     have o1 := own_kept (HY.out.1) P7.2 (by omega)
     have o2 := own_kept (HY.out.2.1) P7.2 (by omega)
     generalize (((((((w4.setCell ⟨w.heap.size, 0, none⟩ (.string (B t.lang))).setCell ⟨w.heap.size, 1, none⟩ (.string (B t.ext))).setCell ⟨w.heap.size, 2, none⟩ (.string (B t.script))).setCell ⟨w.heap.size, 3, none⟩ (.string (B t.region))).setCell ⟨w.heap.size, 4, none⟩ (.slice a1 t.vars.length d1)).setCell ⟨w.heap.size, 5, none⟩ (.slice a2 t.exts.length d2)).setCell ⟨w.heap.size, 6, none⟩ (.string ⟨#[]⟩)) = we at *
     have hpr := HA.out.2
     refine bodyPost_ret (v := .tuple #[.agg (tagCells t a1 a2 d1 d2), .int .i64 0]) (by simp [results, Tryz.results100, go_sem, c0, c1, c2, c3, c4, c5, c6, tagCells, hpr, B]) rfl ?_
     rw [HE.out]
     exact ⟨a1, a2, d1, d2, rfl, hbe, ownsRow_mono o1 (by omega), ownsRow_mono o2 (by omega), HA.out.1⟩
    ·have hp' : privB p = false := hq
     have HE : Hid (tagF s = none) := hid (by rw [HT.out]; unfold tagP; rw [hF]; simp only; rw [if_neg (by rw [hp']; simp)])
     clear hF hq hp'
     go_wp2_with (go_at_call 146; (with_reducible refine SP.out.mono ?_); rintro e w4 ⟨rfl, hb4⟩; obtain ⟨hv, hR, ho, hp, ha, hz, hb, hpr, hps⟩ := HX.out; have hR4 := hR.below hb4 hbc; have hz4 := hz.below hb4 (by omega); have HY := hid (And.intro hz4 (hb.trans (hb4.mono hb.size))); obtain ⟨o5, e5, rfl, _, _, _⟩ := hv.cons; have y0 := (row_of hR4 0 _ rfl).1; have z0 := (row_of hz4 0 _ rfl); have z1 := (row_of hz4 1 _ rfl); have z2 := (row_of hz4 2 _ rfl); have z3 := (row_of hz4 3 _ rfl); have z4 := (row_of hz4 4 _ rfl); have z5 := (row_of hz4 5 _ rfl); have z6 := (row_of hz4 6 _ rfl); clear hv hR ho hp ha hz hb hps hR4 hz4 hb4 hpr)
     have P7 := put7 (show RowAt w4 w.heap.size [.string ⟨#[]⟩, .string ⟨#[]⟩, .string ⟨#[]⟩, .string ⟨#[]⟩, .slice none 0 0, .slice none 0 0, .string ⟨#[]⟩] from HY.out.1) (.string ⟨#[]⟩) (.string ⟨#[]⟩) (.string ⟨#[]⟩) (.string ⟨#[]⟩) (.slice none 0 0) (.slice none 0 0) (.string ⟨#[]⟩)
     have c0 := (row_of P7.1 0 _ rfl).1; have c1 := (row_of P7.1 1 _ rfl).1; have c2 := (row_of P7.1 2 _ rfl).1; have c3 := (row_of P7.1 3 _ rfl).1; have c4 := (row_of P7.1 4 _ rfl).1; have c5 := (row_of P7.1 5 _ rfl).1; have c6 := (row_of P7.1 6 _ rfl).1
     have hbe := (HY.out.2).grown P7.2 (HY.out.2).size (fun j hj => by cases hj; exact Nat.le_refl _)
     generalize (((((((w4.setCell ⟨w.heap.size, 0, none⟩ (.string ⟨#[]⟩)).setCell ⟨w.heap.size, 1, none⟩ (.string ⟨#[]⟩)).setCell ⟨w.heap.size, 2, none⟩ (.string ⟨#[]⟩)).setCell ⟨w.heap.size, 3, none⟩ (.string ⟨#[]⟩)).setCell ⟨w.heap.size, 4, none⟩ (.slice none 0 0)).setCell ⟨w.heap.size, 5, none⟩ (.slice none 0 0)).setCell ⟨w.heap.size, 6, none⟩ (.string ⟨#[]⟩)) = we at *
     refine bodyPost_ret (v := .tuple #[.agg (tagCells noTag none none 0 0), .int .i64 61]) (by simp [results, Tryz.results100, go_sem, c0, c1, c2, c3, c4, c5, c6, tagCells, noTag, B]) rfl ?_
     rw [HE.out]
     exact ⟨rfl, hbe⟩
   | true =>
    rw [hq] at SP
    rcases r with _ | ⟨p, r⟩
    ·cases hq
    have hp' : privB p = true := hq
    have hpl1 : p.length <= 1 := by
     unfold privB at hp'
     simp at hp'
     rcases hp' with h | h <;> simp [h]
    have hfl := tagTail_flat 1 r
    have hrl2 : r.length <= 16777216 := by simp at hrl'; omega
    have hcat : p.length + (flatH (tagTail 1 r).1).length <= 140737488355328 := by omega
    have NX := hid (fun lv fs u (hv : ViewAt u k lv (p :: r)) (hR : RowAt u w2.heap.size (lv :: fs)) => tnext_l w2.heap.size k p r lv fs u hv hR hkb)
    have TL := hid (fun lv fs u (hv : ViewAt u k lv r) (hR : RowAt u w2.heap.size (lv :: fs)) => ttail1_l w2.heap.size k r lv fs u hv hR hkb (World.block_lt_of_cell? _ _ (row_of hR 0 _ rfl).1) (fun q hq => Nat.le_trans (HX.out.2.2.2.2.2.2.2.2 q (by simp [hq])) (by omega)) hrl2)
    cases hm0 : ((tagTail 1 r).1 == []) with
    | true =>
     have HE : Hid (tagF s = none) := hid (by rw [HT.out]; unfold tagP; rw [hF]; simp only; rw [if_pos hp', if_pos (by simpa using hm0)])
     rw [hm0] at TL
     clear hF hq hp' hm0 hpl1 hfl hcat
     go_wp2_with (first
      | (go_at_call 146; (with_reducible refine SP.out.mono ?_); rintro e w4 ⟨rfl, hb4⟩; obtain ⟨hv, hR, ho, hp, ha, hz, hb, hpr, hps⟩ := HX.out; have N4 := hid (NX.out _ _ w4 (hv.below hb4) (hR.below hb4 hbc)); have HY := hid (And.intro (ownsRow_below ho hb4) (And.intro (ownsRow_below hp hb4) (And.intro (hz.below hb4 (by omega)) (hb.trans (hb4.mono hb.size))))); have HA := hid (And.intro ha hpr); clear hv hR ho hp ha hz hb hps hb4 hpr)
      | (go_at_call 150; (with_reducible refine N4.out.mono ?_); rintro e w5 ⟨rfl, lv5, hv5, hR5, hg5⟩; have T5 := hid (TL.out _ _ w5 hv5 hR5); have HG5 := hid hg5; clear hv5 hR5 hg5)
      | (go_at_call 151; (with_reducible refine T5.out.mono ?_); rintro e w6 ⟨rfl, lv6, hv6, hR6, hg6⟩; have HV6 := hid (And.intro hv6 hR6); have HG6 := hid (grown_trans HG5.out hg6); obtain ⟨o5, p5, q5, r5⟩ := HY.out; have HZ6 := hid (And.intro (q5.grown HG6.out (by simp; omega) (World.block_lt_of_cell? _ _ (row_of q5 0 _ rfl).1)) (r5.grown HG6.out r5.size (fun j hj => by cases hj; omega))); have HO6 := hid (And.intro (own_kept o5 HG6.out (Nat.lt_succ_self _)) (own_kept p5 HG6.out (Nat.lt_succ_self _))); obtain ⟨hz6, hb6⟩ := HZ6.out; have z0 := (row_of hz6 0 _ rfl); have z1 := (row_of hz6 1 _ rfl); have z2 := (row_of hz6 2 _ rfl); have z3 := (row_of hz6 3 _ rfl); have z4 := (row_of hz6 4 _ rfl); have z5 := (row_of hz6 5 _ rfl); have z6 := (row_of hz6 6 _ rfl); clear hz6 hb6; clear hv6 hR6 hg6 o5 p5 q5 r5)
      | fail)
     have P7 := put7 (show RowAt w6 w.heap.size [.string ⟨#[]⟩, .string ⟨#[]⟩, .string ⟨#[]⟩, .string ⟨#[]⟩, .slice none 0 0, .slice none 0 0, .string ⟨#[]⟩] from HZ6.out.1) (.string ⟨#[]⟩) (.string ⟨#[]⟩) (.string ⟨#[]⟩) (.string ⟨#[]⟩) (.slice none 0 0) (.slice none 0 0) (.string ⟨#[]⟩)
     have c0 := (row_of P7.1 0 _ rfl).1; have c1 := (row_of P7.1 1 _ rfl).1; have c2 := (row_of P7.1 2 _ rfl).1; have c3 := (row_of P7.1 3 _ rfl).1; have c4 := (row_of P7.1 4 _ rfl).1; have c5 := (row_of P7.1 5 _ rfl).1; have c6 := (row_of P7.1 6 _ rfl).1
     have hbe := (HZ6.out.2).grown P7.2 (HZ6.out.2).size (fun j hj => by cases hj; exact Nat.le_refl _)
     generalize (((((((w6.setCell ⟨w.heap.size, 0, none⟩ (.string ⟨#[]⟩)).setCell ⟨w.heap.size, 1, none⟩ (.string ⟨#[]⟩)).setCell ⟨w.heap.size, 2, none⟩ (.string ⟨#[]⟩)).setCell ⟨w.heap.size, 3, none⟩ (.string ⟨#[]⟩)).setCell ⟨w.heap.size, 4, none⟩ (.slice none 0 0)).setCell ⟨w.heap.size, 5, none⟩ (.slice none 0 0)).setCell ⟨w.heap.size, 6, none⟩ (.string ⟨#[]⟩)) = we at *
     refine bodyPost_ret (v := .tuple #[.agg (tagCells noTag none none 0 0), .int .i64 61]) (by simp [results, Tryz.results100, go_sem, c0, c1, c2, c3, c4, c5, c6, tagCells, noTag, B]) rfl ?_
     rw [HE.out]
     exact ⟨rfl, hbe⟩
    | false =>
     have hne : ¬ (tagTail 1 r).1 = [] := by simpa using hm0
     rw [hm0] at TL
     cases hr2 : (tagTail 1 r).2 with
     | nil =>
      have HE : Hid (tagF s = some { t with priv := p ++ flatH (tagTail 1 r).1 }) := hid (by rw [HT.out]; unfold tagP; rw [hF]; simp only; rw [if_pos hp', if_neg hne, if_pos hr2, joinD_flat])
      rw [hr2] at TL
      generalize flatH (tagTail 1 r).1 = fl at *
      clear hF hq hp' hm0 hpl1 hfl hne hr2
      go_wp2_with (first
       | (go_at_call 146; (with_reducible refine SP.out.mono ?_); rintro e w4 ⟨rfl, hb4⟩; obtain ⟨hv, hR, ho, hp, ha, hz, hb, hpr, hps⟩ := HX.out; have N4 := hid (NX.out _ _ w4 (hv.below hb4) (hR.below hb4 hbc)); have HY := hid (And.intro (ownsRow_below ho hb4) (And.intro (ownsRow_below hp hb4) (And.intro (hz.below hb4 (by omega)) (hb.trans (hb4.mono hb.size))))); have HA := hid (And.intro ha hpr); clear hv hR ho hp ha hz hb hps hb4 hpr)
       | (go_at_call 150; (with_reducible refine N4.out.mono ?_); rintro e w5 ⟨rfl, lv5, hv5, hR5, hg5⟩; have T5 := hid (TL.out _ _ w5 hv5 hR5); have HG5 := hid hg5; clear hv5 hR5 hg5)
       | (go_at_call 151; (with_reducible refine T5.out.mono ?_); rintro e w6 ⟨rfl, lv6, hv6, hR6, hg6⟩; have HV6 := hid (And.intro hv6 hR6); have HG6 := hid (grown_trans HG5.out hg6); obtain ⟨o5, p5, q5, r5⟩ := HY.out; have HZ6 := hid (And.intro (q5.grown HG6.out (by simp; omega) (World.block_lt_of_cell? _ _ (row_of q5 0 _ rfl).1)) (r5.grown HG6.out r5.size (fun j hj => by cases hj; omega))); have HO6 := hid (And.intro (own_kept o5 HG6.out (Nat.lt_succ_self _)) (own_kept p5 HG6.out (Nat.lt_succ_self _))); obtain ⟨hz6, hb6⟩ := HZ6.out; have z0 := (row_of hz6 0 _ rfl); have z1 := (row_of hz6 1 _ rfl); have z2 := (row_of hz6 2 _ rfl); have z3 := (row_of hz6 3 _ rfl); have z4 := (row_of hz6 4 _ rfl); have z5 := (row_of hz6 5 _ rfl); have z6 := (row_of hz6 6 _ rfl); have hR6 := HV6.out.2; have y0 := (row_of hR6 0 _ rfl).1; have y1 := (row_of hR6 1 _ rfl).1; have y2 := (row_of hR6 2 _ rfl).1; have y3 := (row_of hR6 3 _ rfl).1; have y4 := (row_of hR6 4 _ rfl).1; have y5 := (row_of hR6 5 _ rfl).1; have y6 := (row_of hR6 6 _ rfl).1; have y7 := (row_of hR6 7 _ rfl).1; have f7 := (row_of hR6 7 _ rfl).2; clear hR6; obtain ⟨o8, e8, rfl⟩ := HV6.out.1.empty; clear hz6 hb6; clear hv6 hR6 hg6 o5 p5 q5 r5)
       | fail)
      have hgs := grownBy_set w6 w2.heap.size 7 (.string (B (p ++ fl)))
      have hz7 := HZ6.out.1.grown hgs (by simp; omega) (World.block_lt_of_cell? _ _ (row_of HZ6.out.1 0 _ rfl).1)
      have hb7 := HZ6.out.2.grown hgs HZ6.out.2.size (fun j hj => by cases hj; omega)
      have o7 := own_kept HO6.out.1 hgs (Nat.lt_succ_self _)
      have p7 := own_kept HO6.out.2 hgs (Nat.lt_succ_self _)
      generalize w6.setCell ⟨w2.heap.size, 7, none⟩ (.string (B (p ++ fl))) = w7 at *
      have P7 := put7 (show RowAt w7 w.heap.size [.string ⟨#[]⟩, .string ⟨#[]⟩, .string ⟨#[]⟩, .string ⟨#[]⟩, .slice none 0 0, .slice none 0 0, .string ⟨#[]⟩] from hz7) (.string (B t.lang)) (.string (B t.ext)) (.string (B t.script)) (.string (B t.region)) (.slice a1 t.vars.length d1) (.slice a2 t.exts.length d2) (.string (B (p ++ fl)))
      have c0 := (row_of P7.1 0 _ rfl).1; have c1 := (row_of P7.1 1 _ rfl).1; have c2 := (row_of P7.1 2 _ rfl).1; have c3 := (row_of P7.1 3 _ rfl).1; have c4 := (row_of P7.1 4 _ rfl).1; have c5 := (row_of P7.1 5 _ rfl).1; have c6 := (row_of P7.1 6 _ rfl).1
      have hbe := (hb7).grown P7.2 (hb7).size (fun j hj => by cases hj; exact Nat.le_refl _)
      have o1 := own_kept (o7) P7.2 (by omega)
      have o2 := own_kept (p7) P7.2 (by omega)
      generalize (((((((w7.setCell ⟨w.heap.size, 0, none⟩ (.string (B t.lang))).setCell ⟨w.heap.size, 1, none⟩ (.string (B t.ext))).setCell ⟨w.heap.size, 2, none⟩ (.string (B t.script))).setCell ⟨w.heap.size, 3, none⟩ (.string (B t.region))).setCell ⟨w.heap.size, 4, none⟩ (.slice a1 t.vars.length d1)).setCell ⟨w.heap.size, 5, none⟩ (.slice a2 t.exts.length d2)).setCell ⟨w.heap.size, 6, none⟩ (.string (B (p ++ fl)))) = we at *
      refine bodyPost_ret (v := .tuple #[.agg (tagCells { t with priv := p ++ fl } a1 a2 d1 d2), .int .i64 0]) (by simp [results, Tryz.results100, go_sem, c0, c1, c2, c3, c4, c5, c6, tagCells]) rfl ?_
      rw [HE.out]
      exact ⟨a1, a2, d1, d2, rfl, hbe, ownsRow_mono o1 (by omega), ownsRow_mono o2 (by omega), HA.out.1⟩
     | cons q r2 =>
      have HE : Hid (tagF s = none) := hid (by rw [HT.out]; unfold tagP; rw [hF]; simp only; rw [if_pos hp', if_neg hne, if_neg (by rw [hr2]; simp)])
      rw [hr2] at TL
      generalize flatH (tagTail 1 r).1 = fl at *
      clear hF hq hp' hm0 hpl1 hfl hne hr2
      go_wp2_with (first
       | (go_at_call 146; (with_reducible refine SP.out.mono ?_); rintro e w4 ⟨rfl, hb4⟩; obtain ⟨hv, hR, ho, hp, ha, hz, hb, hpr, hps⟩ := HX.out; have N4 := hid (NX.out _ _ w4 (hv.below hb4) (hR.below hb4 hbc)); have HY := hid (And.intro (ownsRow_below ho hb4) (And.intro (ownsRow_below hp hb4) (And.intro (hz.below hb4 (by omega)) (hb.trans (hb4.mono hb.size))))); have HA := hid (And.intro ha hpr); clear hv hR ho hp ha hz hb hps hb4 hpr)
       | (go_at_call 150; (with_reducible refine N4.out.mono ?_); rintro e w5 ⟨rfl, lv5, hv5, hR5, hg5⟩; have T5 := hid (TL.out _ _ w5 hv5 hR5); have HG5 := hid hg5; clear hv5 hR5 hg5)
       | (go_at_call 151; (with_reducible refine T5.out.mono ?_); rintro e w6 ⟨rfl, lv6, hv6, hR6, hg6⟩; have HV6 := hid (And.intro hv6 hR6); have HG6 := hid (grown_trans HG5.out hg6); obtain ⟨o5, p5, q5, r5⟩ := HY.out; have HZ6 := hid (And.intro (q5.grown HG6.out (by simp; omega) (World.block_lt_of_cell? _ _ (row_of q5 0 _ rfl).1)) (r5.grown HG6.out r5.size (fun j hj => by cases hj; omega))); have HO6 := hid (And.intro (own_kept o5 HG6.out (Nat.lt_succ_self _)) (own_kept p5 HG6.out (Nat.lt_succ_self _))); obtain ⟨hz6, hb6⟩ := HZ6.out; have z0 := (row_of hz6 0 _ rfl); have z1 := (row_of hz6 1 _ rfl); have z2 := (row_of hz6 2 _ rfl); have z3 := (row_of hz6 3 _ rfl); have z4 := (row_of hz6 4 _ rfl); have z5 := (row_of hz6 5 _ rfl); have z6 := (row_of hz6 6 _ rfl); have hR6 := HV6.out.2; have y0 := (row_of hR6 0 _ rfl).1; have y1 := (row_of hR6 1 _ rfl).1; have y2 := (row_of hR6 2 _ rfl).1; have y3 := (row_of hR6 3 _ rfl).1; have y4 := (row_of hR6 4 _ rfl).1; have y5 := (row_of hR6 5 _ rfl).1; have y6 := (row_of hR6 6 _ rfl).1; have y7 := (row_of hR6 7 _ rfl).1; have f7 := (row_of hR6 7 _ rfl).2; clear hR6; obtain ⟨o8, e8, rfl, _, _, _⟩ := HV6.out.1.cons; clear hz6 hb6; clear hv6 hR6 hg6 o5 p5 q5 r5)
       | fail)
      have hgs := grownBy_set w6 w2.heap.size 7 (.string (B (p ++ fl)))
      have hz7 := HZ6.out.1.grown hgs (by simp; omega) (World.block_lt_of_cell? _ _ (row_of HZ6.out.1 0 _ rfl).1)
      have hb7 := HZ6.out.2.grown hgs HZ6.out.2.size (fun j hj => by cases hj; omega)
      have o7 := own_kept HO6.out.1 hgs (Nat.lt_succ_self _)
      have p7 := own_kept HO6.out.2 hgs (Nat.lt_succ_self _)
      generalize w6.setCell ⟨w2.heap.size, 7, none⟩ (.string (B (p ++ fl))) = w7 at *
      have P7 := put7 (show RowAt w7 w.heap.size [.string ⟨#[]⟩, .string ⟨#[]⟩, .string ⟨#[]⟩, .string ⟨#[]⟩, .slice none 0 0, .slice none 0 0, .string ⟨#[]⟩] from hz7) (.string ⟨#[]⟩) (.string ⟨#[]⟩) (.string ⟨#[]⟩) (.string ⟨#[]⟩) (.slice none 0 0) (.slice none 0 0) (.string ⟨#[]⟩)
      have c0 := (row_of P7.1 0 _ rfl).1; have c1 := (row_of P7.1 1 _ rfl).1; have c2 := (row_of P7.1 2 _ rfl).1; have c3 := (row_of P7.1 3 _ rfl).1; have c4 := (row_of P7.1 4 _ rfl).1; have c5 := (row_of P7.1 5 _ rfl).1; have c6 := (row_of P7.1 6 _ rfl).1
      have hbe := (hb7).grown P7.2 (hb7).size (fun j hj => by cases hj; exact Nat.le_refl _)
      generalize (((((((w7.setCell ⟨w.heap.size, 0, none⟩ (.string ⟨#[]⟩)).setCell ⟨w.heap.size, 1, none⟩ (.string ⟨#[]⟩)).setCell ⟨w.heap.size, 2, none⟩ (.string ⟨#[]⟩)).setCell ⟨w.heap.size, 3, none⟩ (.string ⟨#[]⟩)).setCell ⟨w.heap.size, 4, none⟩ (.slice none 0 0)).setCell ⟨w.heap.size, 5, none⟩ (.slice none 0 0)).setCell ⟨w.heap.size, 6, none⟩ (.string ⟨#[]⟩)) = we at *
      refine bodyPost_ret (v := .tuple #[.agg (tagCells noTag none none 0 0), .int .i64 61]) (by simp [results, Tryz.results100, go_sem, c0, c1, c2, c3, c4, c5, c6, tagCells, noTag, B]) rfl ?_
      rw [HE.out]
      exact ⟨rfl, hbe⟩
end Go.Proofs.YtdhmpakhdhdebaaGreatDoor
