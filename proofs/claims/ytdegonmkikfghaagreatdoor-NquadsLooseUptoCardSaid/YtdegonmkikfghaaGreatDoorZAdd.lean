/-
  The closure within names.Join: contract. By an AI agent.
-/
import Derived.Test.YtdegonmkikfghaaGreatDoorZApp
import Derived.Test.YtdegonmkikfghaaGreatDoorZGPlain
import Derived.Test.YtdegonmkikfghaaGreatDoorZLower
import Derived.RangeFuncBox
import Derived.Test.YtdegonmkikfghaaGreatDoorZTagCells
import Derived.Test.YtdegonmkikfghaaGreatDoorShelf
import Derived.Deep.RegionLaw
import Derived.Test.YtdegonmkikfghaaGreatDoorZGRef1
import Derived.Deep.CutBlock
import Derived.Outline
import Derived.Test.YtdegonmkikfghaaGreatDoorProg
import Derived.Deep.QuietTactic
import Derived.BigQuiet
import Derived.Deep.RegionHeld3
import Derived.Test.YtdegonmkikfghaaGreatDoorZSort0
import Derived.Test.YtdegonmkikfghaaGreatDoorZEscBack0
namespace Go.Proofs.YtdegonmkikfghaaGreatDoor
open Go.RowKit
set_option maxRecDepth 100000
def VarOf (w : World) (b : Nat) (v : Value) (ls : List (List UInt8)) : Prop := w.cell? ⟨b, 0, none⟩ = some v /\ w.frozen? ⟨b, 0, none⟩ = false /\ w.ownsRow (b + 1) 9 1 v ls.length (ls.map strV)
theorem grownBy_trans {w v u : World} {r : Option Nat} (h : w.grownBy v r) (h2 : v.grownBy u r) : w.grownBy u r :=
 ⟨h2.1.trans h.1, h2.2.trans h.2, h2.3.trans h.3, Nat.le_trans h.4 h2.4, fun b hb hn => (h2.5 b (Nat.lt_of_lt_of_le hb h.4) hn).trans (h.5 b hb hn)⟩
end Go.Proofs.YtdegonmkikfghaaGreatDoor
namespace Go.Proofs.YtdegonmkikfghaaGreatDoor
open Go.RowKit
set_option maxRecDepth 100000
theorem VarOf.alloc {w : World} {b : Nat} {v : Value} {ls : List (List UInt8)} (h : VarOf w b v ls) (o : Obj) : VarOf (w.alloc o) b v ls := by
 have hl := World.block_lt_of_cell? _ _ h.1
 exact ⟨by rw [World.cell?_alloc_lt _ _ _ hl]; exact h.1, by rw [World.frozen?_alloc_old _ _ _ (Nat.ne_of_lt hl)]; exact h.2.1, h.2.2.alloc _⟩
def JF (w u : World) (cs : Array Value) (v0 : Value) : Prop := Below w.heap.size w u /\ u.cell? ⟨w.heap.size + 1, 0, none⟩ = some v0 /\ u.frozen? ⟨w.heap.size + 1, 0, none⟩ = false /\ ∀ (k : Nat) (x : Value), cs[k]? = some x -> u.cell? ⟨w.heap.size, k, none⟩ = some x
theorem JF.grown {w u u' : World} {cs : Array Value} {v0 : Value} {row : Option Nat} (h : JF w u cs v0) (hg : u.grownBy u' row) (hr : ∀ k, row = some k -> w.heap.size + 1 + 1 <= k) : JF w u' cs v0 := by
 have hl : w.heap.size + 1 < u.heap.size := World.block_lt_of_cell? _ _ h.2.1
 have n1 : some (w.heap.size + 1) ≠ row := fun e => by have := hr _ e.symm; omega
 have n0 : some w.heap.size ≠ row := fun e => by have := hr _ e.symm; omega
 exact ⟨h.1.grown hg (by omega) (fun k hk => by have := hr k hk; omega), (hg.cell_far ⟨w.heap.size + 1, 0, none⟩ hl n1).trans h.2.1, (hg.frozen_far ⟨w.heap.size + 1, 0, none⟩ hl n1).trans h.2.2.1,
   fun k x hx => (hg.cell_far ⟨w.heap.size, k, none⟩ (by show w.heap.size < _; omega) n0).trans (h.2.2.2 k x hx)⟩
theorem JF.drew {w u : World} {cs : Array Value} {v0 : Value} (h : JF w u cs v0) : JF w u.drew cs v0 := ⟨h.1.drew, h.2⟩
end Go.Proofs.YtdegonmkikfghaaGreatDoor
namespace Go.Proofs.YtdegonmkikfghaaGreatDoor
open Go.RowKit
set_option maxRecDepth 100000
theorem lowL_size (l : List UInt8) : (lowL l).length = l.length := by simp [lowL]
end Go.Proofs.YtdegonmkikfghaaGreatDoor
namespace Go.Proofs.YtdegonmkikfghaaGreatDoor
open Go.RowKit
theorem lowB_nat (c : UInt8) : (lowB c).toNat = if 65 <= c.toNat /\ c.toNat <= 90 then c.toNat + 32 else c.toNat := by
 unfold lowB
 have := c.toNat_lt
 split
 · rw [UInt8.toNat_add]; simp; omega
 · rfl
theorem lowB_low (c : UInt8) : lowB (lowB c) = lowB c := by
 rw [<- UInt8.toNat_inj, lowB_nat, lowB_nat]
 repeat' split
 all_goals omega
theorem lowL_low (l : List UInt8) : lowL (lowL l) = lowL l := by
 unfold lowL
 rw [List.map_map]
 exact List.map_congr_left (fun c _ => lowB_low c)
theorem lowL_append (a b : List UInt8) : lowL (a ++ b) = lowL a ++ lowL b := by simp [lowL]
theorem lowB_45 (c : UInt8) : lowB c = 45 ↔ c = 45 := by
 unfold lowB
 rw [<- UInt8.toNat_inj, <- UInt8.toNat_inj]
 have := c.toNat_lt
 split
 · rw [UInt8.toNat_add]; simp; omega
 · rfl
theorem alphaC_low (c : UInt8) : alphaC (lowB c) = alphaC c := by
 rw [Bool.eq_iff_iff, alphaC_iff, alphaC_iff]
 unfold lowB
 have := c.toNat_lt
 split
 · rw [UInt8.toNat_add]; simp; omega
 · rfl
theorem digC_low (c : UInt8) : digC (lowB c) = digC c := by
 rw [Bool.eq_iff_iff, digC_iff, digC_iff]
 unfold lowB
 have := c.toNat_lt
 split
 · rw [UInt8.toNat_add]; simp; omega
 · rfl
theorem madeB_low (p : List UInt8) (lo hi : Nat) (pu : Bool) : madeB (lowL p) lo hi pu = madeB p lo hi pu := by
 unfold madeB
 rw [lowL_size]
 congr 1
 unfold lowL
 rw [List.all_map]
 congr 1
 funext c
 simp only [Function.comp_apply, alphaC_low, digC_low]
theorem privB_low (p : List UInt8) : privB (lowL p) = privB p := by rw [<- lowL_x, <- lowL_x, lowL_low]
theorem headD_low (p : List UInt8) (h : p ≠ []) : digC ((lowL p).headD 0) = digC (p.headD 0) := by
 cases p with
 | nil => exact absurd rfl h
 | cons c r => exact digC_low c
theorem variantB_low (p : List UInt8) : variantB (lowL p) = variantB p := by
 unfold variantB
 rw [madeB_low, madeB_low]
 by_cases h : p = []
 · subst h; rfl
 · rw [headD_low p h]
theorem regionB_low (p : List UInt8) : regionB (lowL p) = regionB p := by
 unfold regionB
 rw [madeB_low, lowL_size]
 congr 2
 unfold lowL
 rw [List.all_map]
 congr 1
 funext c
 exact digC_low c
theorem partsOf_low : ∀ l : List UInt8, partsOf (lowL l) = (partsOf l).map lowL
 | [] => rfl
 | c :: r => by
   have ih := partsOf_low r
   have e : lowL (c :: r) = lowB c :: lowL r := rfl
   rw [e, partsOf, partsOf, ih]
   by_cases hc : c = 45
   · rw [if_pos hc, if_pos ((lowB_45 c).2 hc)]
     rfl
   · rw [if_neg hc, if_neg (fun h => hc ((lowB_45 c).1 h))]
     rcases partsOf r with _ | ⟨h, t⟩
     · rfl
     · rfl
theorem joinL_low : ∀ l : List (List UInt8), joinD (l.map lowL) = lowL (joinD l)
 | [] => rfl
 | [p] => rfl
 | p :: q :: r => by
   have ih := joinL_low (q :: r)
   simp only [List.map_cons, joinD] at ih ⊢
   rw [ih, lowL_append]
   rfl
def lowT (t : TagL) : TagL := ⟨lowL t.lang, lowL t.ext, lowL t.script, lowL t.region, t.vars.map lowL, t.exts.map lowL, lowL t.priv⟩
theorem ext3_low : ∀ (n : Nat) (ps : List (List UInt8)), ext3 n (ps.map lowL) = ((ext3 n ps).1.map lowL, (ext3 n ps).2.map lowL)
 | 0, ps => rfl
 | _ + 1, [] => rfl
 | n + 1, p :: r => by
   have ih := ext3_low n r
   rw [List.map_cons, ext3, ext3, madeB_low, ih]
   split <;> rfl
theorem langF_low (ps : List (List UInt8)) : langF (ps.map lowL) = (langF ps).map fun x => (lowL x.1, lowL x.2.1, x.2.2.map lowL) := by
 rcases ps with _ | ⟨p, r⟩
 · rfl
 · rw [List.map_cons, langF, langF, madeB_low, lowL_size, ext3_low]
   split
   · split
     · rfl
     · simp only [Option.map_some, joinL_low]
   · rfl
theorem oneF_low (f : List UInt8 -> Bool) (hf : ∀ p, f (lowL p) = f p) (ps : List (List UInt8)) : oneF f (ps.map lowL) = (lowL (oneF f ps).1, (oneF f ps).2.map lowL) := by
 rcases ps with _ | ⟨p, r⟩
 · rfl
 · rw [List.map_cons, oneF, oneF, hf]
   split <;> rfl
theorem tagTail_low (lo : Nat) : ∀ ps, tagTail lo (ps.map lowL) = ((tagTail lo ps).1.map lowL, (tagTail lo ps).2.map lowL)
 | [] => rfl
 | p :: r => by
   have ih := tagTail_low lo r
   rw [List.map_cons, tagTail, tagTail, madeB_low, ih]
   split <;> rfl
theorem varsF_low : ∀ (ps seen : List (List UInt8)), varsF seen (ps.map lowL) = (varsF seen ps).map fun x => (x.1.map lowL, x.2.map lowL)
 | [], seen => rfl
 | p :: r, seen => by
   have ih := varsF_low r (seen ++ [lowL p])
   rw [List.map_cons, varsF, varsF, variantB_low, lowL_low, ih]
   split
   · split
     · rfl
     · rw [Option.map_map, Option.map_map]
       rfl
   · rfl
theorem extsF_low : ∀ (n : Nat) (ps seen : List (List UInt8)), ps.length <= n -> extsF seen (ps.map lowL) = (extsF seen ps).map fun x => (x.1.map lowL, x.2.map lowL)
 | n, [], seen, _ => by rw [List.map_nil, extsF_no rfl]; rfl
 | 0, p :: r, seen, hn => by simp at hn
 | n + 1, p :: r, seen, hn => by
   have hl := tagTail_len 2 r
   have ih := extsF_low n (tagTail 2 r).2 (seen ++ [lowL p]) (by simp at hn; omega)
   have hc1 : (madeB (lowL p) 1 1 false && !privB (lowL p)) = (madeB p 1 1 false && !privB p) := by rw [madeB_low, privB_low]
   cases hm : (madeB p 1 1 false && !privB p) with
   | false =>
     rw [List.map_cons, extsF_no (show seesF (fun p => madeB p 1 1 false && !privB p) (p :: r) = false from hm), extsF_no (show seesF (fun p => madeB p 1 1 false && !privB p) (lowL p :: r.map lowL) = false from (show (madeB (lowL p) 1 1 false && !privB (lowL p)) = false from hc1.trans hm))]
     rfl
   | true =>
     rw [hm] at hc1
     have ht : (tagTail 2 (r.map lowL)).1 = [] ↔ (tagTail 2 r).1 = [] := by rw [tagTail_low]; simp
     by_cases hc : (tagTail 2 r).1 = [] \/ seen.contains (lowL p) = true
     · rw [List.map_cons, extsF_bad hm hc, extsF_bad hc1 (by rw [lowL_low, ht]; exact hc)]
       rfl
     · rw [List.map_cons, extsF_step hm hc, extsF_step hc1 (by rw [lowL_low, ht]; exact hc), lowL_low, tagTail_low, ih, Option.map_map, Option.map_map]
       congr 1
       funext x
       simp only [Function.comp_apply, List.map_cons]
       rw [<- List.map_cons, joinL_low]
theorem restF_low (lang ext : List UInt8) (ps : List (List UInt8)) : restF (lowL lang) (lowL ext) (ps.map lowL) = (restF lang ext ps).map fun x => (lowT x.1, x.2.map lowL) := by
 unfold restF
 simp only [oneF_low (fun p => madeB p 4 4 true) (fun p => madeB_low p 4 4 true), oneF_low regionB regionB_low, varsF_low]
 cases hv : varsF [] (oneF regionB (oneF (fun p => madeB p 4 4 true) ps).2).2 with
 | none => rfl
 | some v =>
   simp only [Option.map_some]
   have hm : (v.1.map lowL).map lowL = v.1.map lowL := by rw [List.map_map]; exact List.map_congr_left (fun x _ => lowL_low x)
   rw [hm, extsF_low v.2.length v.2 _ (Nat.le_refl _)]
   cases he : extsF (v.1.map lowL) v.2 with
   | none => rfl
   | some e => rfl
theorem seesPriv_low (ps : List (List UInt8)) : seesPriv (ps.map lowL) = seesPriv ps := by
 rcases ps with _ | ⟨p, r⟩
 · rfl
 · exact privB_low p
theorem frontF_low (ps : List (List UInt8)) : frontF (ps.map lowL) = (frontF ps).map fun x => (lowT x.1, x.2.map lowL) := by
 unfold frontF
 rw [seesPriv_low, langF_low]
 split
 · rfl
 · cases hl : langF ps with
   | none => rfl
   | some q =>
     obtain ⟨l, e, r⟩ := q
     exact restF_low l e r
theorem privR_low (r : List (List UInt8)) : privR (r.map lowL) = privR r := by
 unfold privR
 congr 1
 · cases r <;> rfl
 · rw [List.all_map]
   congr 1
   funext q
   exact madeB_low q 1 8 false
theorem finalF_low (o : Option (TagL × List (List UInt8))) : finalF (o.map fun x => (lowT x.1, x.2.map lowL)) = (finalF o).map lowT := by
 rcases o with _ | ⟨t, r⟩
 · rfl
 · rcases r with _ | ⟨p, r⟩
   · rfl
   · rw [Option.map_some, finalF_cons]
     show finalF (some (lowT t, lowL p :: r.map lowL)) = _
     rw [finalF_cons, privB_low, privR_low]
     split
     · split
       · rw [<- List.map_cons, joinL_low]; rfl
       · rfl
     · rfl
theorem tagF_low (s : List UInt8) : tagF (lowL s) = (tagF s).map lowT := by
 unfold tagF
 rw [partsOf_low, tagP_final, tagP_final, frontF_low, finalF_low]
end Go.Proofs.YtdegonmkikfghaaGreatDoor
namespace Go.Proofs.YtdegonmkikfghaaGreatDoor
open Go.RowKit
set_option maxRecDepth 1000000
theorem tagged_iri : iriN tagged = 0 := by kernel_rfl
theorem plain_iri : iriN plainT = 0 := by kernel_rfl
theorem plain_tagged : plainT ≠ tagged := by decide
theorem tag_none : tagF [] = none := by kernel_rfl
theorem langN_low {c : List UInt8} (h1 : c.length <= 65536) (h2 : (tagF c).isNone = false) : langN (lowL c) = 0 /\ lowL c ≠ [] := by
 have hc : c ≠ [] := fun e => by rw [e, tag_none] at h2; cases h2
 have hl : (lowL c).length = c.length := by simp [lowL]
 have hn : lowL c ≠ [] := fun e => hc (List.length_eq_zero_iff.1 (by rw [<- hl, e]; rfl))
 have ht : (tagF (lowL c)).isNone = false := by
   rw [tagF_low]
   cases h : tagF c with
   | none => rw [h] at h2; cases h2
   | some t => rfl
 refine ⟨?_, hn⟩
 unfold langN
 rw [if_neg hn, if_neg (by omega), ht, if_neg (by simp), if_pos (lowL_low c)]
theorem litN_lang {t lang : List UInt8} (h1 : t.length <= 65536) (h2 : utfF t 0 = -1) (h3 : langN lang = 0) (h4 : lang ≠ []) : termN ⟨3, t, tagged, lang⟩ = 0 := by
 unfold termN
 rw [if_neg (by simp), if_pos rfl]
 unfold litN
 simp only [h2, tagged_iri, h3]
 rw [if_neg (by omega), if_neg (by decide), if_neg (by simp), if_neg (by simp), if_neg (by simp [h4])]
theorem litN_type {t ty : List UInt8} (h1 : t.length <= 65536) (h2 : utfF t 0 = -1) (h3 : iriN ty = 0) (h4 : ty ≠ tagged) : termN ⟨3, t, ty, []⟩ = 0 := by
 unfold termN
 rw [if_neg (by simp), if_pos rfl]
 unfold litN
 simp only [h2, h3]
 rw [if_neg (by omega), if_neg (by decide), if_neg (by simp), if_neg (by simp [langN]), if_neg (by simp [h4])]
theorem behindF_ok {l t : List UInt8} {e n : Nat} {u : TermL} (h : behindF l t e = .inl (u, n)) (h1 : t.length <= 65536) (h2 : utfF t 0 = -1) : termN u = 0 /\ u.kind = 3 := by
 unfold behindF at h
 split at h
 · split at h
   · cases h
   · next lang m hq =>
     cases h
     unfold tagAt at hq
     split at hq
     · cases hq
     · split at hq
       · cases hq
       · next h3 h4 =>
         cases hq
         have := langN_low (c := cutF l (e + 1) (tagE l (e + 1))) (by omega) (Bool.eq_false_iff.2 h4)
         exact ⟨litN_lang h1 h2 this.1 this.2, rfl⟩
 · split at h
   · split at h
     · cases h
     · next ty m hq =>
       split at h
       · cases h
       · next h3 =>
         cases h
         exact ⟨litN_type h1 h2 (iriAt_good hq).1 h3, rfl⟩
   · cases h
     exact ⟨litN_type h1 h2 plain_iri plain_tagged, rfl⟩
theorem termAt_ok {l : List UInt8} {i n : Nat} {t : TermL} (h : termAt l i = .inl (t, n)) : termN t = 0 /\ ((l.getD i 0 = 60 /\ t.kind = 1) \/ (l.getD i 0 = 95 /\ t.kind = 2) \/ (l.getD i 0 = 34 /\ t.kind = 3)) := by
 unfold termAt at h
 split at h
 · next h0 =>
   split at h
   · cases h
   · next x m hq =>
     cases h
     refine ⟨?_, .inl ⟨h0, rfl⟩⟩
     unfold termN
     rw [if_pos (.inl rfl), if_neg (by simp), if_pos rfl]
     exact (iriAt_good hq).1
 · split at h
   · next h0 =>
     unfold litAt at h
     split at h
     · cases h
     · split at h
       · cases h
       · next x hx =>
         split at h
         · cases h
         · have := behindF_ok h (by omega) (unesc_utf 1 _ _ 0 _ (Nat.le_refl _) hx)
           exact ⟨this.1, .inr (.inr ⟨h0, this.2⟩)⟩
   · split at h
     · next h0 =>
       unfold blankAt at h
       split at h
       · cases h
       · split at h
         · cases h
         · split at h
           · cases h
           · next h1 h2 =>
             cases h
             refine ⟨?_, .inr (.inl ⟨h0, rfl⟩)⟩
             have hr := (run_ok h1).2
             unfold termN
             rw [if_pos (.inr rfl), if_neg (by simp), if_neg (by simp), if_neg ?_, if_pos hr]
             show ¬ 65536 < (cutF _ _ _).length
             unfold cutF
             rw [List.length_take, List.length_drop]
             omega
     · cases h
theorem slotF_ok {l s : List UInt8} {i n : Nat} {t : TermL} (h : slotF l i s = .inl (t, n)) : termN t = 0 /\ ((l.getD i 0 = 60 /\ t.kind = 1) \/ (l.getD i 0 = 95 /\ t.kind = 2) \/ (l.getD i 0 = 34 /\ t.kind = 3)) /\ l.getD i 0 ∈ s := by
 unfold slotF at h
 split at h
 · next h0 =>
   split at h
   · cases h
   · next x m hq =>
     cases h
     have := termAt_ok hq
     exact ⟨this.1, this.2, h0.2⟩
 · cases h
theorem slot_two {l : List UInt8} {i n : Nat} {t : TermL} (h : slotF l i [60, 95] = .inl (t, n)) : termN t = 0 /\ (t.kind = 1 \/ t.kind = 2) := by
 obtain ⟨h1, h2, h3⟩ := slotF_ok h
 refine ⟨h1, ?_⟩
 rcases h2 with ⟨_, h2⟩ | ⟨_, h2⟩ | ⟨h4, _⟩
 · exact .inl h2
 · exact .inr h2
 · rw [h4] at h3; simp at h3
theorem slot_one {l : List UInt8} {i n : Nat} {t : TermL} (h : slotF l i [60] = .inl (t, n)) : termN t = 0 /\ t.kind = 1 := by
 obtain ⟨h1, h2, h3⟩ := slotF_ok h
 refine ⟨h1, ?_⟩
 rcases h2 with ⟨_, h2⟩ | ⟨h4, _⟩ | ⟨h4, _⟩
 · exact h2
 · rw [h4] at h3; simp at h3
 · rw [h4] at h3; simp at h3
theorem slot_any {l : List UInt8} {i n : Nat} {t : TermL} {s : List UInt8} (h : slotF l i s = .inl (t, n)) : termN t = 0 /\ (t.kind = 1 \/ t.kind = 2 \/ t.kind = 3) := by
 obtain ⟨h1, h2, _⟩ := slotF_ok h
 refine ⟨h1, ?_⟩
 rcases h2 with ⟨_, h2⟩ | ⟨_, h2⟩ | ⟨_, h2⟩
 · exact .inl h2
 · exact .inr (.inl h2)
 · exact .inr (.inr h2)
theorem quadN_of {s p o g : TermL} (hs : termN s = 0 /\ (s.kind = 1 \/ s.kind = 2)) (hp : termN p = 0 /\ p.kind = 1) (ho : termN o = 0 /\ (o.kind = 1 \/ o.kind = 2 \/ o.kind = 3)) (hg : g = noTerm \/ (termN g = 0 /\ (g.kind = 1 \/ g.kind = 2))) : quadN ⟨s, p, o, g⟩ = 0 := by
 unfold quadN
 rw [if_neg (fun h => h hs.2), if_neg (fun h => h hs.1), if_neg (fun h => h hp.2), if_neg (fun h => h hp.1), if_neg (fun h => h ho.2), if_neg (fun h => h ho.1)]
 rcases hg with rfl | hg
 · rw [if_pos rfl]
 · split
   · rfl
   · rw [if_neg (fun h => h hg.2)]; exact hg.1
theorem stmtF_ok {l : List UInt8} {i n : Nat} {q : QuadL} (h : stmtF l i = .inl (q, n)) : quadN q = 0 := by
 unfold stmtF at h
 split at h
 · cases h
 · next h1 =>
   split at h
   · cases h
   · next h2 =>
     split at h
     · cases h
     · next h3 =>
       split at h
       · cases h
         exact quadN_of (slot_two h1) (slot_one h2) (slot_any h3) (.inl rfl)
       · split at h
         · cases h
         · next h4 =>
           split at h
           · cases h
             exact quadN_of (slot_two h1) (slot_one h2) (slot_any h3) (.inr (slot_two h4))
           · cases h
theorem lineAt_ok {l : List UInt8} {q : QuadL} (h : lineAt l = .inl (some q)) : quadN q = 0 := by
 unfold lineAt at h
 split at h
 · split at h
   · cases h
   · next h1 =>
     split at h
     · cases h
     · cases h
       exact stmtF_ok h1
 · split at h
   · cases h
   · cases h
end Go.Proofs.YtdegonmkikfghaaGreatDoor
