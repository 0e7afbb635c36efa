/-
  What lies beside a call's own rows stays: small laws. By an AI agent.
-/
import Derived.Test.YtdhmpakhdhdebaaGreatDoorZGTag1
import Derived.Test.YtdhmpakhdhdebaaGreatDoorZStrAt
import Derived.Test.YtdhmpakhdhdebaaGreatDoorShelf
namespace Go.Proofs.YtdhmpakhdhdebaaGreatDoor
open Go.Lib (hid)
open Go.RowKit
set_option maxRecDepth 100000
theorem grown_row {w wr w1 : World} {r row : Option Nat} (h : w.grownBy wr r) (hg : wr.grownBy w1 row) (hr : ∀ k, row = some k -> w.heap.size <= k) : w.grownBy w1 r :=
 ⟨hg.os.trans h.os, hg.tape.trans h.tape, hg.output.trans h.output, Nat.le_trans h.size hg.size,
  fun k hk hne => (hg.block k (Nat.lt_of_lt_of_le hk h.size) (fun e => by have := hr k e.symm; omega)).trans (h.block k hk hne)⟩
def Apart (u v : Value) : Prop := ∀ g, u.ownBlock = some g -> v.ownBlock ≠ some g
theorem Apart.nil_left (v : Value) : Apart (.slice none 0 0) v := fun g h => by simp [Value.ownBlock] at h
theorem Apart.nil_right (v : Value) : Apart v (.slice none 0 0) := fun g _ h => by simp [Value.ownBlock] at h
theorem Apart.symm {u v : Value} (h : Apart u v) : Apart v u := fun g h1 h2 => h g h2 h1
theorem Apart.ne {u v : Value} (h : Apart u v) : u.ownBlock = none \/ u.ownBlock ≠ v.ownBlock := by
 cases hu : u.ownBlock with
 | none => exact .inl rfl
 | some g => exact .inr (fun e => h g hu e.symm)
theorem RowAt.grown {w w' : World} {row : Option Nat} {g : Nat} {vs : List Value} (h : RowAt w g vs) (hg : w.grownBy w' row) (hne : some g ≠ row) (hl : g < w.heap.size) : RowAt w' g vs := fun j hj =>
 ⟨(World.cell?_of_block (a := ⟨g, j, none⟩) (hg.block g hl hne)).trans (h.cell hj), (World.frozen?_of_block (a := ⟨g, j, none⟩) (hg.block g hl hne)).trans (h.free hj)⟩
theorem Apart.grows {u u' v : Value} {n : Nat} (h : Apart u v) (hu : u'.ownBlock = u.ownBlock \/ u'.ownBlock = some n) (hv : ∀ g, v.ownBlock = some g -> g < n) : Apart u' v := fun g h1 h2 => by
 rcases hu with e | e
 ·exact h g (e ▸ h1) h2
 ·rw [e] at h1
  cases h1
  have := hv _ h2
  omega
theorem contains_map (ls : List (List UInt8)) (x : List UInt8) : Lib.containsS (ls.map B) (B x) = ls.contains x := by
 rw [Bool.eq_iff_iff, Lib.containsS_iff, List.contains_iff_mem, List.mem_map]
 exact ⟨fun ⟨y, hy, he⟩ => B_inj he ▸ hy, fun h => ⟨x, h, rfl⟩⟩
theorem contains_l (ls : List (List UInt8)) (x : List UInt8) (base : Nat) (v : Value) (w : World) (hl : ls.length <= 1000000000) (h : w.ownsRow base 9 1 v ls.length (ls.map strV)) :
  Calls Tryz.prog 201 #[v, .string (B x)] w fun e w' => e = .returned (.bool (ls.contains x)) /\ w' = w := by
 obtain ⟨a, cap, rfl, _, _, hA⟩ := ownsRow_at h
 rcases ls with _ | ⟨y, r⟩
 ·exact Tryz.slices_Contains_string_empty a cap (B x) w
 ·obtain ⟨b, o, rfl⟩ := hA.place (by simp)
  have h := Tryz.slices_Contains_string b o (y :: r).length cap ((y :: r).map B) (B x) w (by simp) (by omega) (fun j hj => by
   have hj' : j < (y :: r).length := by simpa using hj
   have hc := hA.get (j := j) (by simpa using hj')
   rw [hc, List.getElem_map]
   have hjm : j < ((y :: r).map B).length := by simpa using hj'
   rw [List.getD_eq_getElem?_getD, List.getElem?_eq_getElem hjm, Option.getD_some, List.getElem_map]
   rfl)
  rw [List.take_of_length_le (by simp), contains_map] at h
  exact h
theorem row_of {w : World} {g : Nat} {vs : List Value} (h : RowAt w g vs) (j : Nat) (x : Value) (hx : vs[j]? = some x) : w.cell? ⟨g, j, none⟩ = some x /\ w.frozen? ⟨g, j, none⟩ = false := by
 obtain ⟨hj, rfl⟩ := List.getElem?_eq_some_iff.1 hx
 exact h j hj
end Go.Proofs.YtdhmpakhdhdebaaGreatDoor
namespace Go.Proofs.YtdhmpakhdhdebaaGreatDoor
open Go.Lib (hid)
open Go.RowKit
set_option maxRecDepth 100000
def RestPost (w w' : World) (e : Ending) (b k : Nat) : Option (TagL × List (List UInt8)) -> Prop
 | none => e = .returned (.bool false) /\ w.grownBy w' (some b)
 | some (t, r) => e = .returned (.bool true) /\ w.grownBy w' (some b) /\ ∃ lv' vv ev, ViewAt w' k lv' r /\ RowAt w' b [lv', .string (B t.lang), .string (B t.ext), .string (B t.script), .string (B t.region), vv, ev, .string ⟨#[]⟩] /\
   w'.ownsRow w.heap.size 9 1 vv t.vars.length (t.vars.map strV) /\ w'.ownsRow w.heap.size 9 1 ev t.exts.length (t.exts.map strV) /\ Apart vv ev
theorem oneF_no {f : List UInt8 -> Bool} {ps : List (List UInt8)} (h : seesF f ps = false) : oneF f ps = ([], ps) := by
 rcases ps with _ | ⟨p, r⟩
 ·rfl
 ·have h' : f p = false := h
  rw [oneF, if_neg (by rw [h']; simp)]
theorem oneF_yes {f : List UInt8 -> Bool} {p : List UInt8} {r : List (List UInt8)} (h : f p = true) : oneF f (p :: r) = (p, r) := by rw [oneF, if_pos h]
theorem oneF_len (f : List UInt8 -> Bool) (ps : List (List UInt8)) : (oneF f ps).2.length <= ps.length /\ ∀ p ∈ (oneF f ps).2, p ∈ ps := by
 rcases ps with _ | ⟨p, r⟩
 ·exact ⟨Nat.le_refl _, fun p hp => hp⟩
 ·cases h : f p with
  | true => rw [oneF_yes h]; exact ⟨by simp, fun q hq => List.mem_cons_of_mem _ hq⟩
  | false => rw [oneF_no (show seesF f (p :: r) = false from h)]; exact ⟨Nat.le_refl _, fun p hp => hp⟩
def restH (lang ext scr reg : List UInt8) (ps : List (List UInt8)) : Option (TagL × List (List UInt8)) :=
 match varsF [] ps with
 | none => none
 | some v => match extsF (v.1.map lowL) v.2 with
  | none => none
  | some e => some (⟨lang, ext, scr, reg, v.1, e.1, []⟩, e.2)
def restG (lang ext scr : List UInt8) (ps : List (List UInt8)) : Option (TagL × List (List UInt8)) :=
 match varsF [] (oneF regionB ps).2 with
 | none => none
 | some v => match extsF (v.1.map lowL) v.2 with
  | none => none
  | some e => some (⟨lang, ext, scr, (oneF regionB ps).1, v.1, e.1, []⟩, e.2)
theorem joinD_flat : ∀ (m : List (List UInt8)) (p : List UInt8), joinD (p :: m) = p ++ flatH m
 | [], p => by simp [joinD, flatH]
 | q :: r, p => by rw [joinD, joinD_flat r q]; simp [flatH]
theorem tagTail_made (lo : Nat) : ∀ ps, ∀ q ∈ (tagTail lo ps).1, madeB q lo 8 false = true
 | [], q, h => by cases h
 | p :: r, q, h => by
  cases hm : madeB p lo 8 false with
  | true =>
   rw [tagTail_yes hm] at h
   rcases List.mem_cons.1 h with rfl | h
   ·exact hm
   ·exact tagTail_made lo r q h
  | false => rw [tagTail_no hm] at h; cases h
theorem tagTail_mem (lo : Nat) : ∀ ps, ∀ q ∈ (tagTail lo ps).2, q ∈ ps
 | [], q, h => h
 | p :: r, q, h => by
  cases hm : madeB p lo 8 false with
  | true => rw [tagTail_yes hm] at h; exact List.mem_cons_of_mem _ (tagTail_mem lo r q h)
  | false => rw [tagTail_no hm] at h; exact h
theorem flatH_len : ∀ (m : List (List UInt8)), (∀ q ∈ m, q.length <= 8) -> (flatH m).length <= 9 * m.length
 | [], _ => by simp [flatH]
 | q :: r, h => by
  have h1 := flatH_len r (fun x hx => h x (List.mem_cons_of_mem _ hx))
  have h2 := h q (List.mem_cons_self ..)
  have e : flatH (q :: r) = 45 :: q ++ flatH r := by simp [flatH]
  rw [e, List.length_append, List.length_cons, List.length_cons]
  omega
theorem tagTail_flat (lo : Nat) (ps : List (List UInt8)) : (flatH (tagTail lo ps).1).length <= 9 * ps.length := by
 have h := flatH_len (tagTail lo ps).1 (fun q hq => (made_len (tagTail_made lo ps q hq)).2)
 have := tagTail_len lo ps
 omega
theorem ttail2_l (b k : Nat) (ps : List (List UInt8)) (lv : Value) (fs : List Value) (w : World) (hv : ViewAt w k lv ps) (hR : RowAt w b (lv :: fs)) (hk : k ≠ b) (hbw : b < w.heap.size) (hp : ∀ p ∈ ps, p.length <= 140737488351232) (hn : ps.length <= 16777216) :
  Calls Tryz.prog 151 #[.pointer (some ⟨b, 0, none⟩), .int .i64 2] w fun e w' => e = .returned (.tuple #[.string (B (flatH (tagTail 2 ps).1)), .bool (!((tagTail 2 ps).1 == []))]) /\
   ∃ lv', ViewAt w' k lv' (tagTail 2 ps).2 /\ RowAt w' b (lv' :: fs) /\ w.grownBy w' (some b) := ttail_l 2 b k ps lv fs w (by omega) hv hR hk hbw hp hn
theorem ttail1_l (b k : Nat) (ps : List (List UInt8)) (lv : Value) (fs : List Value) (w : World) (hv : ViewAt w k lv ps) (hR : RowAt w b (lv :: fs)) (hk : k ≠ b) (hbw : b < w.heap.size) (hp : ∀ p ∈ ps, p.length <= 140737488351232) (hn : ps.length <= 16777216) :
  Calls Tryz.prog 151 #[.pointer (some ⟨b, 0, none⟩), .int .i64 1] w fun e w' => e = .returned (.tuple #[.string (B (flatH (tagTail 1 ps).1)), .bool (!((tagTail 1 ps).1 == []))]) /\
   ∃ lv', ViewAt w' k lv' (tagTail 1 ps).2 /\ RowAt w' b (lv' :: fs) /\ w.grownBy w' (some b) := ttail_l 1 b k ps lv fs w (by omega) hv hR hk hbw hp hn
theorem own_kept {w w' : World} {base b : Nat} {e : TypeId} {v : Value} {n : Nat} {xs : List Value} (h : w.ownsRow base e 1 v n xs) (hg : w.grownBy w' (some b)) (hb : b < base) : w'.ownsRow base e 1 v n xs :=
 h.kept hg (by
  cases hv : v.ownBlock with
  | none => exact .inl rfl
  | some g => exact .inr (fun e => by have := (h.lt g hv).1; cases e; omega))
theorem varsF_no {seen ps : List (List UInt8)} (h : seesF variantB ps = false) : varsF seen ps = some ([], ps) := by
 rcases ps with _ | ⟨p, r⟩
 ·rfl
 ·have h' : variantB p = false := h
  rw [varsF, if_neg (by rw [h']; simp)]
theorem varsF_dup {seen r : List (List UInt8)} {p : List UInt8} (h : variantB p = true) (hc : seen.contains (lowL p) = true) : varsF seen (p :: r) = none := by
 rw [varsF, if_pos h, if_pos hc]
theorem varsF_step {seen r : List (List UInt8)} {p : List UInt8} (h : variantB p = true) (hc : seen.contains (lowL p) = false) : varsF seen (p :: r) = (varsF (seen ++ [lowL p]) r).map fun x => (p :: x.1, x.2) := by
 rw [varsF, if_pos h, if_neg (by rw [hc]; simp)]
theorem extsF_no {seen ps : List (List UInt8)} (h : seesF (fun p => madeB p 1 1 false && !privB p) ps = false) : extsF seen ps = some ([], ps) := by
 rcases ps with _ | ⟨p, r⟩
 ·rw [extsF]
 ·have h' : (madeB p 1 1 false && !privB p) = false := h
  rw [extsF, if_neg (by rw [h']; simp)]
theorem extsF_bad {seen r : List (List UInt8)} {p : List UInt8} (h : (madeB p 1 1 false && !privB p) = true) (hc : (tagTail 2 r).1 = [] \/ seen.contains (lowL p) = true) : extsF seen (p :: r) = none := by
 rw [extsF, if_pos h, if_pos hc]
theorem extsF_step {seen r : List (List UInt8)} {p : List UInt8} (h : (madeB p 1 1 false && !privB p) = true) (hc : ¬ ((tagTail 2 r).1 = [] \/ seen.contains (lowL p) = true)) :
  extsF seen (p :: r) = (extsF (seen ++ [lowL p]) (tagTail 2 r).2).map fun x => (joinD (p :: (tagTail 2 r).1) :: x.1, x.2) := by
 rw [extsF, if_pos h, if_neg hc]
set_option maxHeartbeats 3200000 in
theorem trest_l (b k : Nat) (ps : List (List UInt8)) (lv : Value) (lang ext : List UInt8) (w : World) (hv : ViewAt w k lv ps) (hR : RowAt w b [lv, .string (B lang), .string (B ext), .string ⟨#[]⟩, .string ⟨#[]⟩, .slice none 0 0, .slice none 0 0, .string ⟨#[]⟩]) (hk : k ≠ b) (hbw : b < w.heap.size) (hkw : k < w.heap.size) (hp : ∀ p ∈ ps, p.length <= 140737488351232) (hn : ps.length <= 16777216) :
  Calls Tryz.prog 149 #[.pointer (some ⟨b, 0, none⟩)] w fun e w' => RestPost w w' e b k (restF lang ext ps) := by
 have S1 := hid (sees_rest1 b k ps lv _ w hv hR hp)
 have NEXT := hid (tnext_l b k)
 have HV := hid hv
 have HR := hid hR
 have HP := hid hp
 clear hv hR hp
 have HL1 := hid (oneF_len (fun p => madeB p 4 4 true) ps)
 obtain ⟨i0, hi, hz0, hz1, hz2⟩ := info_parts infoStr
 go_enter Tryz.func149, Tryz.ntmps149
 go_upto_if 9 with (go_at_call 146; (with_reducible refine S1.out.mono ?_); rintro e w3 ⟨rfl, hb3⟩; have HV3 := hid (HV.out.below hb3); have HR3 := hid (HR.out.below hb3 hbw); have HG3 := hid (below_grown hb3 (some b)); clear hb3)
 go_cut [] (fun wx => ∃ lv', ViewAt wx k lv' (oneF (fun p => madeB p 4 4 true) ps).2 /\ RowAt wx b [lv', .string (B lang), .string (B ext), .string (B (oneF (fun p => madeB p 4 4 true) ps).1), .string ⟨#[]⟩, .slice none 0 0, .slice none 0 0, .string ⟨#[]⟩] /\ w.grownBy wx (some b))
 case first =>
  cases hq : seesF (fun p => madeB p 4 4 true) ps with
  | false =>
   have HO := hid (oneF_no hq)
   clear hq
   go_wp2_with fail
   go_meet
   case rel => rw [HO.out]; exact ⟨lv, HV3.out, HR3.out, HG3.out⟩
  | true =>
   rcases ps with _ | ⟨p, ps⟩
   ·cases hq
   have HO := hid (oneF_yes (f := fun p => madeB p 4 4 true) (r := ps) hq)
   clear hq
   go_wp2_with (go_at_call 150; (with_reducible refine (NEXT.out p ps lv _ w3 HV3.out HR3.out hk).mono ?_); rintro e w4 ⟨rfl, lv4, hv4, hR4, hg4⟩; have HV4 := hid hv4; have HR4 := hid hR4; have HG4 := hid (grown_trans HG3.out hg4); have c1 := (row_of hR4 3 _ rfl).1; have f1 := (row_of hR4 3 _ rfl).2; clear hv4 hR4 hg4)
   go_meet
   case rel =>
    rw [HO.out]
    exact ⟨lv4, HV4.out.grown (grownBy_set w4 b 3 _) (by simpa using hk), HR4.out.set (j := 3) (by simp) (.string (B p)), grown_trans HG4.out (grownBy_set w4 b 3 _)⟩
 case rest =>
  clear HV3 HR3 HG3 S1 HV HR
  obtain ⟨lv, hv, hR, hg⟩ := hcut
  have hp1 : ∀ p ∈ (oneF (fun p => madeB p 4 4 true) ps).2, p.length <= 140737488351232 := fun p h => HP.out p (HL1.out.2 p h)
  have hn1 : (oneF (fun p => madeB p 4 4 true) ps).2.length <= 16777216 := Nat.le_trans HL1.out.1 hn
  clear HP hn HL1
  have HF : Hid (restF lang ext ps = restG lang ext (oneF (fun p => madeB p 4 4 true) ps).1 (oneF (fun p => madeB p 4 4 true) ps).2) := hid rfl
  generalize (oneF (fun p => madeB p 4 4 true) ps).1 = scr at *
  generalize (oneF (fun p => madeB p 4 4 true) ps).2 = qs at *
  have S1 := hid (sees_region b k qs lv _ wc hv hR hp1)
  have HV := hid hv
  have HR := hid hR
  have HG := hid hg
  have HP := hid hp1
  have hbc : b < wc.heap.size := Nat.lt_of_lt_of_le hbw hg.size
  clear hv hR hg hp1
  have HL1 := hid (oneF_len regionB qs)
  go_upto_if 17 with (go_at_call 146; (with_reducible refine S1.out.mono ?_); rintro e w3 ⟨rfl, hb3⟩; have HV3 := hid (HV.out.below hb3); have HR3 := hid (HR.out.below hb3 hbc); have HG3 := hid (grown_trans HG.out (below_grown hb3 (some b))); clear hb3)
  obtain ⟨wd, hwd⟩ : ∃ wd : World, wd = wc := ⟨_, rfl⟩
  go_cut [] (fun wx => ∃ lv', ViewAt wx k lv' (oneF regionB qs).2 /\ RowAt wx b [lv', .string (B lang), .string (B ext), .string (B scr), .string (B (oneF regionB qs).1), .slice none 0 0, .slice none 0 0, .string ⟨#[]⟩] /\ w.grownBy wx (some b))
  case first =>
   cases hq : seesF regionB qs with
   | false =>
    have HO := hid (oneF_no hq)
    clear hq
    go_wp2_with fail
    go_meet
    case rel => rw [HO.out]; exact ⟨lv, HV3.out, HR3.out, HG3.out⟩
   | true =>
    rcases qs with _ | ⟨p, qs⟩
    ·cases hq
    have HO := hid (oneF_yes (f := regionB) (r := qs) hq)
    clear hq
    go_wp2_with (go_at_call 150; (with_reducible refine (NEXT.out p qs lv _ w3 HV3.out HR3.out hk).mono ?_); rintro e w4 ⟨rfl, lv4, hv4, hR4, hg4⟩; have HV4 := hid hv4; have HR4 := hid hR4; have HG4 := hid (grown_trans HG3.out hg4); have c1 := (row_of hR4 4 _ rfl).1; have f1 := (row_of hR4 4 _ rfl).2; clear hv4 hR4 hg4)
    go_meet
    case rel =>
     rw [HO.out]
     exact ⟨lv4, HV4.out.grown (grownBy_set w4 b 4 _) (by simpa using hk), HR4.out.set (j := 4) (by simp) (.string (B p)), grown_trans HG4.out (grownBy_set w4 b 4 _)⟩
  case rest =>
   clear HV3 HR3 HG3 S1 HV HR
   obtain ⟨lv, hv, hR, hg⟩ := hcut
   have hp1 : ∀ p ∈ (oneF regionB qs).2, p.length <= 140737488351232 := fun p h => HP.out p (HL1.out.2 p h)
   have hn2 : (oneF regionB qs).2.length <= 16777216 := Nat.le_trans HL1.out.1 hn1
   have HF2 : Hid (restF lang ext ps = restH lang ext scr (oneF regionB qs).1 (oneF regionB qs).2) := hid HF.out
   clear HP hn1 HL1 HF hwd HG hbc
   generalize (oneF regionB qs).1 = reg at *
   generalize (oneF regionB qs).2 = rs at *
   have HV := hid hv
   have HR := hid hR
   have HG := hid hg
   have HP := hid hp1
   clear hv hR hg hp1
   go_wp2_with fail
   go_loopw [3] (fun sv wr => ∃ (taken left : List (List UInt8)) (lv vv : Value), taken.length + left.length = rs.length /\ wr.ownsRow w.heap.size 9 1 sv (taken.map lowL).length ((taken.map lowL).map strV) /\ wr.ownsRow w.heap.size 9 1 vv taken.length (taken.map strV) /\ Apart sv vv /\ (∀ p ∈ left, p.length <= 140737488351232) /\ Hid (varsF [] rs = (varsF (taken.map lowL) left).map fun x => (taken ++ x.1, x.2)) /\ ViewAt wr k lv left /\ RowAt wr b [lv, .string (B lang), .string (B ext), .string (B scr), .string (B reg), vv, .slice none 0 0, .string ⟨#[]⟩] /\ w.grownBy wr (some b)) (fun _ wr => cellLen wr b)
   case atStart => exact ⟨[], rs, lv, .slice none 0 0, by simp, World.ownsRow_nil _ _ _ _, World.ownsRow_nil _ _ _ _, Apart.nil_left _, HP.out, hid (by simp), HV.out, HR.out, HG.out⟩
   case round =>
    clear HV HR HG HP
    obtain ⟨taken, left, lv, vv, hlen, hsv, hvv, hap, hpl, HM, hv, hR, hg⟩ := hrel
    have S1 := hid (sees_variant b k left lv _ wr hv hR hpl)
    have hbr : b < wr.heap.size := Nat.lt_of_lt_of_le hbw hg.size
    have HMc : Hid (cellLen wr b = left.length) := hid (by rw [cellLen_of (row_of hR 0 _ rfl).1, hv.len])
    have HSV := hid hsv
    have HVV := hid hvv
    have HAP := hid hap
    have HPL := hid hpl
    have HV := hid hv
    have HR := hid hR
    have HG := hid hg
    clear hsv hvv hap hpl hv hR hg
    cases hq : seesF variantB left with
    | false =>
     rw [hq] at S1
     have HE : Hid (varsF [] rs = some (taken, left)) := hid (by rw [HM.out, varsF_no hq]; simp)
     clear HM hq
     have TAIL := hid (fun ps lv fs w => ttail2_l b k ps lv fs w)
     go_wp2_with (go_at_call 146; (with_reducible refine S1.out.mono ?_); rintro e w3 ⟨rfl, hb3⟩; have HV3 := hid (HV.out.below hb3); have HR3 := hid (HR.out.below hb3 hbr); have HG3 := hid (grown_trans HG.out (below_grown hb3 (some b))); have HSV3 := hid (ownsRow_below HSV.out hb3); have HVV3 := hid (ownsRow_below HVV.out hb3); clear hb3)
     clear HSV HVV HV HR HG S1 HMc hbr
     obtain ⟨wq, hwq⟩ : ∃ wq : World, wq = wr := ⟨_, rfl⟩
     obtain ⟨left0, hl0⟩ : ∃ l, left = l := ⟨_, rfl⟩
     rw [hl0] at HE
     have HF3 : Hid (∀ x, extsF (taken.map lowL) left0 = x -> restF lang ext ps = match x with
       | none => none
       | some e => some (⟨lang, ext, scr, reg, taken, e.1, []⟩, e.2)) := hid (fun x hx => by
      rw [HF2.out]
      unfold restH
      rw [HE.out]
      simp only [hx])
     have HL0 := hid hl0
     clear HF2 HE hwq hl0
     go_loopw [3] (fun sv wr => ∃ (low exts left : List (List UInt8)) (lv ev : Value), low.length + left.length <= rs.length /\ exts.length <= low.length /\ wr.ownsRow w.heap.size 9 1 sv low.length (low.map strV) /\ wr.ownsRow w.heap.size 9 1 vv taken.length (taken.map strV) /\ wr.ownsRow w.heap.size 9 1 ev exts.length (exts.map strV) /\ Apart sv vv /\ Apart sv ev /\ Apart vv ev /\ (∀ p ∈ left, p.length <= 140737488351232) /\ Hid (extsF (taken.map lowL) left0 = (extsF low left).map fun x => (exts ++ x.1, x.2)) /\ ViewAt wr k lv left /\ RowAt wr b [lv, .string (B lang), .string (B ext), .string (B scr), .string (B reg), vv, ev, .string ⟨#[]⟩] /\ w.grownBy wr (some b)) (fun _ wr => cellLen wr b)
     case atStart => exact ⟨taken.map lowL, [], left, lv, .slice none 0 0, by rw [List.length_map]; omega, Nat.zero_le _, HSV3.out, HVV3.out, World.ownsRow_nil _ _ _ _, HAP.out, Apart.nil_right _, Apart.nil_right _, HPL.out, hid (by rw [<- HL0.out]; simp), HV3.out, HR3.out, HG3.out⟩
     case round =>
      clear HV3 HR3 HG3 HSV3 HVV3 HAP HPL hlen HL0
      clear lv
      clear left
      obtain ⟨low, exts, left, lv, ev, hlen, hel, hsv, hvv, hev, hp1, hp2, hp3, hpl, HM, hv, hR, hg⟩ := hrel
      have S1 := hid (sees_rest2 b k left lv _ wr hv hR hpl)
      have hbr : b < wr.heap.size := Nat.lt_of_lt_of_le hbw hg.size
      have HMc : Hid (cellLen wr b = left.length) := hid (by rw [cellLen_of (row_of hR 0 _ rfl).1, hv.len])
      have HSV := hid hsv
      have HVV := hid hvv
      have HEV := hid hev
      have HAP := hid (And.intro hp1 (And.intro hp2 hp3))
      have HPL := hid hpl
      have HV := hid hv
      have HR := hid hR
      have HG := hid hg
      clear hsv hvv hev hp1 hp2 hp3 hpl hv hR hg
      cases hq : seesF (fun p => madeB p 1 1 false && !privB p) left with
      | false =>
       have HE : Hid (restF lang ext ps = some (⟨lang, ext, scr, reg, taken, exts, []⟩, left)) := hid (by rw [HF3.out _ HM.out, extsF_no hq]; simp)
       rw [hq] at S1
       clear HM hq
       go_wp2_with (go_at_call 146; (with_reducible refine S1.out.mono ?_); rintro e w3 ⟨rfl, hb3⟩; have HB3 := hid hb3; clear hb3)
       go_ret
       rw [HE.out]
       exact ⟨rfl, grown_trans HG.out (below_grown HB3.out (some b)), lv, vv, ev, HV.out.below HB3.out, HR.out.below HB3.out hbr, ownsRow_below HVV.out HB3.out, ownsRow_below HEV.out HB3.out, HAP.out.2.2⟩
      | true =>
       rcases left with _ | ⟨p, left⟩
       ·cases hq
       have hvp : (madeB p 1 1 false && !privB p) = true := hq
       rw [hq] at S1
       have hpl : p.length <= 140737488351232 := HPL.out p (by simp)
       have hpl' : ∀ q ∈ left, q.length <= 140737488351232 := fun q hq => HPL.out q (by simp [hq])
       have HPL' := hid hpl'
       have hln : left.length <= 16777216 := by simp at hlen; omega
       clear hq hpl'
       cases hm0 : ((tagTail 2 left).1 == []) with
       | true =>
        have HE : Hid (restF lang ext ps = none) := hid (by rw [HF3.out _ HM.out, extsF_bad hvp (.inl (by simpa using hm0))]; rfl)
        have TL := hid (fun lv fs w hv hR hbw => TAIL.out left lv fs w hv hR hk hbw HPL'.out hln)
        rw [hm0] at TL
        clear HM hm0 hvp hpl hln
        go_wp2_with (first
         | (go_at_call 146; (with_reducible refine S1.out.mono ?_); rintro e w3 ⟨rfl, hb3⟩; have HV3 := hid (HV.out.below hb3); have HR3 := hid (HR.out.below hb3 hbr); have HW3 := hid (below_grown hb3 (some b)); clear hb3)
         | (go_at_call 150; (with_reducible refine (NEXT.out p left lv _ w3 HV3.out HR3.out hk).mono ?_); rintro e w4 ⟨rfl, lv4, hv4, hR4, hg4⟩; have HW4 := hid (grown_trans HW3.out hg4); have TL4 := hid (TL.out lv4 _ w4 hv4 hR4 (World.block_lt_of_cell? _ _ (row_of hR4 0 _ rfl).1)); clear hv4 hR4 hg4)
         | (go_at_call 151; (with_reducible refine TL4.out.mono ?_); rintro e w5 ⟨rfl, lv5, hv5, hR5, hg5⟩; have HW5 := hid (grown_trans HW4.out hg5); clear hv5 hR5 hg5)
         | fail)
        go_ret
        rw [HE.out]
        exact ⟨rfl, grown_trans HG.out HW5.out⟩
       | false =>
        have hne : ¬ (tagTail 2 left).1 = [] := by simpa using hm0
        have hfl := tagTail_flat 2 left
        have hp8 : p.length <= 1 := by
         rw [Bool.and_eq_true] at hvp
         exact (made_len hvp.1).2
        have htl := tagTail_len 2 left
        have HPT : Hid (∀ q ∈ (tagTail 2 left).2, q.length <= 140737488351232) := hid (fun q hq => HPL'.out q (tagTail_mem 2 left q hq))
        have TL := hid (fun lv fs w hv hR hbw => TAIL.out left lv fs w hv hR hk hbw HPL'.out hln)
        rw [hm0] at TL
        cases hc : low.contains (lowL p) with
        | true =>
         have HE : Hid (restF lang ext ps = none) := hid (by rw [HF3.out _ HM.out, extsF_bad hvp (.inr hc)]; rfl)
         have LOW := hid (fun u => lower_l p u (by unfold maxLen; omega))
         have CON : Hid (∀ u, wr.grownBy u (some b) -> Calls Tryz.prog 201 #[u3, .string (B (lowL p))] u fun e w' => e = .returned (.bool true) /\ w' = u) := hid (fun u hg => hc ▸ contains_l low (lowL p) w.heap.size u3 u (by omega) (own_kept HSV.out hg hbw))
         clear HM hm0 hvp hpl hln hc hne hfl hp8 htl
         go_wp2_with (first
          | (go_at_call 146; (with_reducible refine S1.out.mono ?_); rintro e w3 ⟨rfl, hb3⟩; have HV3 := hid (HV.out.below hb3); have HR3 := hid (HR.out.below hb3 hbr); have HW3 := hid (below_grown hb3 (some b)); clear hb3)
          | (go_at_call 150; (with_reducible refine (NEXT.out p left lv _ w3 HV3.out HR3.out hk).mono ?_); rintro e w4 ⟨rfl, lv4, hv4, hR4, hg4⟩; have HW4 := hid (grown_trans HW3.out hg4); have TL4 := hid (TL.out lv4 _ w4 hv4 hR4 (World.block_lt_of_cell? _ _ (row_of hR4 0 _ rfl).1)); clear hv4 hR4 hg4)
          | (go_at_call 151; (with_reducible refine TL4.out.mono ?_); rintro e w5 ⟨rfl, lv5, hv5, hR5, hg5⟩; have HW5 := hid (grown_trans HW4.out hg5); clear hv5 hR5 hg5)
          | (go_at_call 101; (with_reducible refine (LOW.out _).mono ?_); rintro e w6 ⟨rfl, hb6⟩; have HW6 := hid (grown_trans HW5.out (below_grown hb6 (some b))); clear hb6)
          | (go_at_call 201; (with_reducible refine (CON.out w6 HW6.out).mono ?_); rintro e w7 ⟨rfl, rfl⟩)
          | fail)
         go_ret
         rw [HE.out]
         exact ⟨rfl, grown_trans HG.out HW6.out⟩
        | false =>
         have HE : Hid (extsF (taken.map lowL) left0 = (extsF (low ++ [lowL p]) (tagTail 2 left).2).map fun x => ((exts ++ [joinD (p :: (tagTail 2 left).1)]) ++ x.1, x.2)) := hid (by
          rw [HM.out, extsF_step hvp (by rw [hc]; simp [hne]), Option.map_map]
          simp [Function.comp_def])
         have HJ : Hid (joinD (p :: (tagTail 2 left).1) = p ++ flatH (tagTail 2 left).1) := hid (joinD_flat _ _)
         have LOW := hid (fun u => lower_l p u (by unfold maxLen; omega))
         have CON : Hid (∀ u, wr.grownBy u (some b) -> Calls Tryz.prog 201 #[u3, .string (B (lowL p))] u fun e w' => e = .returned (.bool false) /\ w' = u) := hid (fun u hg => hc ▸ contains_l low (lowL p) w.heap.size u3 u (by omega) (own_kept HSV.out hg hbw))
         rw [HJ.out] at HE
         generalize flatH (tagTail 2 left).1 = fl at *
         generalize (tagTail 2 left).2 = left2 at *
         generalize (tagTail 2 left).1 = mm at *
         obtain ⟨lp, hlp⟩ : ∃ lp, lowL p = lp := ⟨_, rfl⟩
         rw [hlp] at LOW CON HE
         have hcat : p.length + fl.length <= 140737488355328 := by omega
         have hl2 : left2.length <= left.length := by omega
         have hlow : low.length <= 16777216 := by omega
         have hexts : exts.length <= 16777216 := by omega
         clear HM hm0 hvp hpl hln hc hne hfl hp8 htl hlp HJ
         have tok : True := trivial
         go_wp2_with (first
          | (go_at_call 146; (with_reducible refine S1.out.mono ?_); rintro e w3 ⟨rfl, hb3⟩; have HV3 := hid (HV.out.below hb3); have HR3 := hid (HR.out.below hb3 hbr); have HW3 := hid (below_grown hb3 (some b)); clear hb3)
          | (go_at_call 150; (with_reducible refine (NEXT.out p left lv _ w3 HV3.out HR3.out hk).mono ?_); rintro e w4 ⟨rfl, lv4, hv4, hR4, hg4⟩; have HW4 := hid (grown_trans HW3.out hg4); have TL4 := hid (TL.out lv4 _ w4 hv4 hR4 (World.block_lt_of_cell? _ _ (row_of hR4 0 _ rfl).1)); clear hv4 hR4 hg4)
          | (go_at_call 151; (with_reducible refine TL4.out.mono ?_); rintro e w5 ⟨rfl, lv5, hv5, hR5, hg5⟩; have HV5 := hid hv5; have HR5 := hid hR5; have HW5 := hid (grown_trans HW4.out hg5); clear hv5 hR5 hg5)
          | (go_at_call 101; have tok2 := tok; (with_reducible refine (LOW.out _).mono ?_); rintro e w6 ⟨rfl, hb6⟩; have HV6 := hid (HV5.out.below hb6); have HR6 := hid (HR5.out.below hb6 (World.block_lt_of_cell? _ _ (row_of HR5.out 0 _ rfl).1)); have HW6 := hid (grown_trans HW5.out (below_grown hb6 (some b))); clear hb6 tok tok2)
          | (go_at_call 201; (with_reducible refine (CON.out w6 HW6.out).mono ?_); rintro e w7 ⟨rfl, rfl⟩)
          | (go_at_call 101; (with_reducible refine (LOW.out _).mono ?_); rintro e w7 ⟨rfl, hb7⟩; have HV7 := hid (HV6.out.below hb7); have HR7 := hid (HR6.out.below hb7 (World.block_lt_of_cell? _ _ (row_of HR6.out 0 _ rfl).1)); have HW7 := hid (grown_trans HW6.out (below_grown hb7 (some b))); have hsv7 := own_kept HSV.out HW7.out hbw; have hs7 : w.heap.size <= w7.heap.size := (grown_trans HG.out HW7.out).size; clear hb7)
          | (at_builtin; refine wpList_append_texts rfl (.tmp 66) (.tmp 69) 190 rfl w.heap.size 9 i0 (.string ⟨#[]⟩) 16 Tryz.underlying190 hi hz0 hz1 hz2 rfl _ _ _ rfl (hsv7.alloc _) (some ⟨w7.heap.size, 0, none⟩) 1 1 [.string (B lp)] rfl rfl (at_one _ _ _) (fun h => nomatch h) (fun u hu => by rw [List.mem_singleton.1 hu]; rfl) ?c4 ?c5 ?c6 ?_)
          | fail)
         case c4 => unfold maxLen; omega
         case c5 => omega
         case c6 => rw [World.size_alloc]; omega
         intro v8 w8 hown8 hg8 ho8
         have lt7 : ∀ g, u3.ownBlock = some g -> w.heap.size <= g /\ g < w7.heap.size := fun g h => hsv7.lt g h
         have hx8 : w7.grownBy w8 u3.ownBlock := grown_trans (World.grownBy_alloc w7 _ _) hg8
         have hG8 : w.grownBy w8 (some b) := grown_row (grown_trans HG.out HW7.out) hx8 (fun g h => (lt7 g h).1)
         have nb : some b ≠ u3.ownBlock := fun e => by have := (lt7 b e.symm).1; omega
         have nk : some k ≠ u3.ownBlock := fun e => by have := (lt7 k e.symm).1; omega
         have hR8 := HR7.out.grown hx8 nb (World.block_lt_of_cell? _ _ (row_of HR7.out 0 _ rfl).1)
         have hV8 := HV7.out.grown hx8 nk
         have hvv7 := own_kept HVV.out HW7.out hbw
         have hev7 := own_kept HEV.out HW7.out hbw
         have hvv8 := hvv7.kept hx8 HAP.out.1.symm.ne
         have hev8 := hev7.kept hx8 HAP.out.2.1.symm.ne
         have hap8 : Apart v8 vv := HAP.out.1.grows ho8 (fun g h => by have := (hvv7.lt g h).2; omega)
         have haq8 : Apart v8 ev := HAP.out.2.1.grows ho8 (fun g h => by have := (hev7.lt g h).2; omega)
         have cv := (row_of hR8 6 _ rfl).1
         have hs8 : w.heap.size <= w8.heap.size := hG8.size
         have hsv8 : w8.ownsRow w.heap.size 9 1 v8 (low ++ [lp]).length ((low ++ [lp]).map strV) := by
          rw [List.length_append, List.map_append]; exact hown8
         have HQ8 := hid (And.intro hsv8 (And.intro hR8 (And.intro hV8 (And.intro hG8 (And.intro hvv8 (And.intro hap8 haq8))))))
         clear hown8 hg8 ho8 lt7 hx8 hG8 nb nk hR8 hV8 hvv7 hev7 hsv8 hap8 haq8 hvv8 hsv7 HV7 HR7 HV6 HR6 HV5 HR5 HV3 HR3 TL4 HSV HVV HEV
         go_wp2_with (at_builtin; refine wpList_append_texts rfl (.tmp 76) (.tmp 80) 190 rfl w.heap.size 9 i0 (.string ⟨#[]⟩) 16 Tryz.underlying190 hi hz0 hz1 hz2 rfl _ _ _ rfl (hev8.alloc _) (some ⟨w8.heap.size, 0, none⟩) 1 1 [.string (B (p ++ fl))] rfl rfl (at_one _ _ _) (fun h => nomatch h) (fun u hu => by rw [List.mem_singleton.1 hu]; rfl) ?c4 ?c5 ?c6 ?_)
         case c4 => unfold maxLen; omega
         case c5 => omega
         case c6 => rw [World.size_alloc]; omega
         intro v9 w9 hown9 hg9 ho9
         obtain ⟨hsv8, hR8, hV8, hG8, hvv8, hap8, haq8⟩ := HQ8.out
         have lt8 : ∀ g, ev.ownBlock = some g -> w.heap.size <= g /\ g < w8.heap.size := fun g h => hev8.lt g h
         have hx9 : w8.grownBy w9 ev.ownBlock := grown_trans (World.grownBy_alloc w8 _ _) hg9
         have hG9 : w.grownBy w9 (some b) := grown_row hG8 hx9 (fun g h => (lt8 g h).1)
         have nb : some b ≠ ev.ownBlock := fun e => by have := (lt8 b e.symm).1; omega
         have nk : some k ≠ ev.ownBlock := fun e => by have := (lt8 k e.symm).1; omega
         have hR9 := hR8.grown hx9 nb (World.block_lt_of_cell? _ _ (row_of hR8 0 _ rfl).1)
         have hV9 := hV8.grown hx9 nk
         have hsv9 := hsv8.kept hx9 haq8.ne
         have hvv9 := hvv8.kept hx9 HAP.out.2.2.ne
         have haq9 : Apart v8 v9 := (haq8.symm.grows ho9 (fun g h => by have := (hsv8.lt g h).2; omega)).symm
         have har9 : Apart vv v9 := (HAP.out.2.2.symm.grows ho9 (fun g h => by have := (hvv8.lt g h).2; omega)).symm
         have cz := (row_of hR9 6 _ rfl).1
         have fz := (row_of hR9 6 _ rfl).2
         have hev9 : w9.ownsRow w.heap.size 9 1 v9 (exts ++ [p ++ fl]).length ((exts ++ [p ++ fl]).map strV) := by
          rw [List.length_append, List.map_append]; exact hown9
         have HQ := hid (And.intro hG9 (And.intro hR9 (And.intro hV9 (And.intro hsv9 (And.intro hvv9 (And.intro hev9 (And.intro hap8 (And.intro haq9 har9))))))))
         obtain ⟨ga, gc, rfl, _, _, _⟩ := ownsRow_at hown9
         clear hown9 hg9 ho9 lt8 hx9 hG9 nb nk hR9 hV9 hsv9 hvv9 haq9 har9 hev9 cv hev8 hsv8 hR8 hV8 hG8 hvv8 hap8 haq8 HQ8
         go_wp2_with fail
         go_roundw
         case rel =>
          obtain ⟨hG9, hR9, hV9, hsv9, hvv9, hev9, hap9, haq9, har9⟩ := HQ.out
          have hgs := grownBy_set w9 b 6 (.slice ga (exts.length + 1) gc)
          exact ⟨low ++ [lp], exts ++ [p ++ fl], left2, lv5, _, by simp at hlen ⊢; omega, by simp; omega, own_kept hsv9 hgs hbw, own_kept hvv9 hgs hbw, own_kept hev9 hgs hbw, hap9, haq9, har9, HPT.out, HE, hV9.grown hgs (by simpa using hk), hR9.set (j := 6) (by simp) _, grown_trans hG9 hgs⟩
         case measure =>
          obtain ⟨hG9, hR9, hV9, _⟩ := HQ.out
          rw [HMc.out, cellLen_of (row_of (hR9.set (j := 6) (by simp) (.slice ga (exts.length + 1) gc)) 0 _ rfl).1, hV9.len]
          simp
          omega
    | true =>
     rcases left with _ | ⟨p, left⟩
     ·cases hq
     have hvp : variantB p = true := hq
     rw [hq] at S1
     clear hq
     have hpl : p.length <= 140737488351232 := HPL.out p (by simp)
     have hll : (taken.map lowL).length <= 16777216 := by rw [List.length_map]; simp at hlen; omega
     cases hc : (taken.map lowL).contains (lowL p) with
     | true =>
      have HE : Hid (varsF [] rs = none) := hid (by rw [HM.out, varsF_dup hvp hc]; rfl)
      generalize taken.map lowL = low at HSV hc hll
      have LOW := hid (fun u => lower_l p u (by unfold maxLen; omega))
      have CON : Hid (∀ u, wr.grownBy u (some b) -> Calls Tryz.prog 201 #[u3, .string (B (lowL p))] u fun e w' => e = .returned (.bool true) /\ w' = u) := hid (fun u hg => hc ▸ contains_l low (lowL p) w.heap.size u3 u (by omega) (own_kept HSV.out hg hbw))
      clear HM hc hvp hll hpl
      go_wp2_with (first
       | (go_at_call 146; (with_reducible refine S1.out.mono ?_); rintro e w3 ⟨rfl, hb3⟩; have HV3 := hid (HV.out.below hb3); have HR3 := hid (HR.out.below hb3 hbr); have HW3 := hid (below_grown hb3 (some b)); clear hb3)
       | (go_at_call 150; (with_reducible refine (NEXT.out p left lv _ w3 HV3.out HR3.out hk).mono ?_); rintro e w4 ⟨rfl, lv4, hv4, hR4, hg4⟩; have HW4 := hid (grown_trans HW3.out hg4); clear hv4 hR4 hg4)
       | (go_at_call 101; (with_reducible refine (LOW.out _).mono ?_); rintro e w5 ⟨rfl, hb5⟩; have HW5 := hid (grown_trans HW4.out (below_grown hb5 (some b))); clear hb5)
       | (go_at_call 201; (with_reducible refine (CON.out w5 HW5.out).mono ?_); rintro e w6 ⟨rfl, rfl⟩)
       | fail)
      go_ret
      rw [HF2.out]
      unfold restH
      rw [HE.out]
      exact ⟨rfl, grown_trans HG.out HW5.out⟩
     | false =>
      have HE : Hid (varsF [] rs = (varsF ((taken ++ [p]).map lowL) left).map fun x => ((taken ++ [p]) ++ x.1, x.2)) := hid (by
       rw [HM.out, varsF_step hvp hc, Option.map_map]
       simp [Function.comp_def])
      have HLW : Hid ((taken ++ [p]).map lowL = taken.map lowL ++ [lowL p]) := hid (by simp)
      generalize taken.map lowL = low at HSV hc hll HLW
      have LOW := hid (fun u => lower_l p u (by unfold maxLen; omega))
      have CON : Hid (∀ u, wr.grownBy u (some b) -> Calls Tryz.prog 201 #[u3, .string (B (lowL p))] u fun e w' => e = .returned (.bool false) /\ w' = u) := hid (fun u hg => hc ▸ contains_l low (lowL p) w.heap.size u3 u (by omega) (own_kept HSV.out hg hbw))
      obtain ⟨lp, hlp⟩ : ∃ lp, lowL p = lp := ⟨_, rfl⟩
      rw [hlp] at LOW CON HLW
      have hlpl : lp.length <= 140737488351232 := by rw [<- hlp, lowL, List.length_map]; exact hpl
      have HLP := hid hlp
      clear HM hc hvp hpl hlp
      have tok : True := trivial
      go_wp2_with (first
       | (go_at_call 146; (with_reducible refine S1.out.mono ?_); rintro e w3 ⟨rfl, hb3⟩; have HV3 := hid (HV.out.below hb3); have HR3 := hid (HR.out.below hb3 hbr); have HW3 := hid (below_grown hb3 (some b)); clear hb3)
       | (go_at_call 150; (with_reducible refine (NEXT.out p left lv _ w3 HV3.out HR3.out hk).mono ?_); rintro e w4 ⟨rfl, lv4, hv4, hR4, hg4⟩; have HV4 := hid hv4; have HR4 := hid hR4; have HW4 := hid (grown_trans HW3.out hg4); clear hv4 hR4 hg4)
       | (go_at_call 101; have tok2 := tok; (with_reducible refine (LOW.out _).mono ?_); rintro e w5 ⟨rfl, hb5⟩; have HV5 := hid (HV4.out.below hb5); have HR5 := hid (HR4.out.below hb5 (World.block_lt_of_cell? _ _ (row_of HR4.out 0 _ rfl).1)); have HW5 := hid (grown_trans HW4.out (below_grown hb5 (some b))); clear hb5 tok tok2)
       | (go_at_call 201; (with_reducible refine (CON.out w5 HW5.out).mono ?_); rintro e w6 ⟨rfl, rfl⟩)
       | (go_at_call 101; (with_reducible refine (LOW.out _).mono ?_); rintro e w7 ⟨rfl, hb7⟩; have HV7 := hid (HV5.out.below hb7); have HR7 := hid (HR5.out.below hb7 (World.block_lt_of_cell? _ _ (row_of HR5.out 0 _ rfl).1)); have HW7 := hid (grown_trans HW5.out (below_grown hb7 (some b))); have hsv7 := own_kept HSV.out HW7.out hbw; have hs7 : w.heap.size <= w7.heap.size := (grown_trans HG.out HW7.out).size; clear hb7)
       | (at_builtin; refine wpList_append_texts rfl (.tmp 32) (.tmp 35) 190 rfl w.heap.size 9 i0 (.string ⟨#[]⟩) 16 Tryz.underlying190 hi hz0 hz1 hz2 rfl _ _ _ rfl (hsv7.alloc _) (some ⟨w7.heap.size, 0, none⟩) 1 1 [.string (B lp)] rfl rfl (at_one _ _ _) (fun h => nomatch h) (fun u hu => by rw [List.mem_singleton.1 hu]; rfl) ?c4 ?c5 ?c6 ?_)
       | fail)
      case c4 => unfold maxLen; omega
      case c5 => omega
      case c6 => rw [World.size_alloc]; omega
      intro v8 w8 hown8 hg8 ho8
      have lt7 : ∀ g, u3.ownBlock = some g -> w.heap.size <= g /\ g < w7.heap.size := fun g h => hsv7.lt g h
      have hx8 : w7.grownBy w8 u3.ownBlock := grown_trans (World.grownBy_alloc w7 _ _) hg8
      have hG8 : w.grownBy w8 (some b) := grown_row (grown_trans HG.out HW7.out) hx8 (fun g h => (lt7 g h).1)
      have nb : some b ≠ u3.ownBlock := fun e => by have := (lt7 b e.symm).1; omega
      have nk : some k ≠ u3.ownBlock := fun e => by have := (lt7 k e.symm).1; omega
      have hR8 := HR7.out.grown hx8 nb (World.block_lt_of_cell? _ _ (row_of HR7.out 0 _ rfl).1)
      have hV8 := HV7.out.grown hx8 nk
      have hvv7 := own_kept HVV.out HW7.out hbw
      have hvv8 := hvv7.kept hx8 HAP.out.symm.ne
      have hap8 : Apart v8 vv := HAP.out.grows ho8 (fun g h => by have := (hvv7.lt g h).2; omega)
      have cv := (row_of hR8 5 _ rfl).1
      have fv := (row_of hR8 5 _ rfl).2
      have hs8 : w.heap.size <= w8.heap.size := hG8.size
      have hsv8 : w8.ownsRow w.heap.size 9 1 v8 ((taken ++ [p]).map lowL).length (((taken ++ [p]).map lowL).map strV) := by
       rw [HLW.out, List.length_append, List.map_append]; exact hown8
      have HSV8 := hid hsv8
      have HR8 := hid hR8
      have HV8 := hid hV8
      have HG8 := hid hG8
      have HAP8 := hid hap8
      have htl : taken.length <= 16777216 := by simp at hlen; omega
      clear hown8 hg8 ho8 lt7 hx8 hG8 nb nk hR8 hV8 hvv7 hsv8 hap8 hsv7 HV7 HR7 HV5 HR5 HV4 HR4 HV3 HR3 HSV
      go_wp2_with (at_builtin; refine wpList_append_texts rfl (.tmp 42) (.tmp 44) 190 rfl w.heap.size 9 i0 (.string ⟨#[]⟩) 16 Tryz.underlying190 hi hz0 hz1 hz2 rfl _ _ _ rfl (hvv8.alloc _) (some ⟨w8.heap.size, 0, none⟩) 1 1 [.string (B p)] rfl rfl (at_one _ _ _) (fun h => nomatch h) (fun u hu => by rw [List.mem_singleton.1 hu]; rfl) ?c4 ?c5 ?c6 ?_)
      case c4 => unfold maxLen; omega
      case c5 => omega
      case c6 => rw [World.size_alloc]; omega
      intro v9 w9 hown9 hg9 ho9
      have lt8 : ∀ g, vv.ownBlock = some g -> w.heap.size <= g /\ g < w8.heap.size := fun g h => hvv8.lt g h
      have hx9 : w8.grownBy w9 vv.ownBlock := grown_trans (World.grownBy_alloc w8 _ _) hg9
      have hG9 : w.grownBy w9 (some b) := grown_row HG8.out hx9 (fun g h => (lt8 g h).1)
      have nb : some b ≠ vv.ownBlock := fun e => by have := (lt8 b e.symm).1; omega
      have nk : some k ≠ vv.ownBlock := fun e => by have := (lt8 k e.symm).1; omega
      have hR9 := HR8.out.grown hx9 nb (World.block_lt_of_cell? _ _ (row_of HR8.out 0 _ rfl).1)
      have hV9 := HV8.out.grown hx9 nk
      have hsv9 := HSV8.out.kept hx9 HAP8.out.ne
      have hap9 : Apart v8 v9 := (HAP8.out.symm.grows ho9 (fun g h => by have := (HSV8.out.lt g h).2; omega)).symm
      have cz := (row_of hR9 5 _ rfl).1
      have fz := (row_of hR9 5 _ rfl).2
      have hvv9 : w9.ownsRow w.heap.size 9 1 v9 (taken ++ [p]).length ((taken ++ [p]).map strV) := by
       rw [List.length_append, List.map_append]; exact hown9
      have HQ := hid (And.intro hG9 (And.intro hR9 (And.intro hV9 (And.intro hsv9 (And.intro hap9 hvv9)))))
      obtain ⟨ga, gc, rfl, _, _, _⟩ := ownsRow_at hown9
      clear hown9 hg9 ho9 lt8 hx9 hG9 nb nk hR9 hV9 hsv9 hap9 hvv9 cv fv hvv8
      go_wp2_with fail
      go_roundw
      case rel =>
       obtain ⟨hG9, hR9, hV9, hsv9, hap9, hvv9⟩ := HQ.out
       have hgs := grownBy_set w9 b 5 (.slice ga (taken.length + 1) gc)
       exact ⟨taken ++ [p], left, lv4, _, by simp at hlen ⊢; omega, own_kept hsv9 hgs hbw, own_kept hvv9 hgs hbw, hap9, fun q hq => HPL.out q (by simp [hq]), HE, hV9.grown hgs (by simpa using hk), hR9.set (j := 5) (by simp) _, grown_trans hG9 hgs⟩
      case measure =>
       obtain ⟨hG9, hR9, hV9, hsv9, hap9, hvv9⟩ := HQ.out
       have hgs := grownBy_set w9 b 5 (.slice ga (taken.length + 1) gc)
       rw [HMc.out, cellLen_of (row_of (hR9.set (j := 5) (by simp) (.slice ga (taken.length + 1) gc)) 0 _ rfl).1, hV9.len]
       simp
end Go.Proofs.YtdhmpakhdhdebaaGreatDoor
