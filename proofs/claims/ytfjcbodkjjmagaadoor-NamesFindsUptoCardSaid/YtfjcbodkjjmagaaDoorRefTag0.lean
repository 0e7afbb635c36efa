/-
  The reference's Tag: the plain part, and what its reader holds. By an AI agent.
-/
import Derived.Test.YtfjcbodkjjmagaaDoorRefExtn
import Derived.Test.YtfjcbodkjjmagaaDoorGRef2
import Derived.Test.YtfjcbodkjjmagaaDoorTag
namespace Go.Proofs.YtfjcbodkjjmagaaDoor
open Go.RowKit
set_option maxRecDepth 100000

theorem lowB_x (c : UInt8) : lowB c = 120 ↔ (c = 120 ∨ c = 88) := by
  unfold lowB
  rw [← UInt8.toNat_inj, ← UInt8.toNat_inj, ← UInt8.toNat_inj]
  have := c.toNat_lt
  split
  · rw [UInt8.toNat_add]
    simp
    omega
  · simp
    omega
theorem lowL_x (p : List UInt8) : (lowL p == [120]) = privB p := by
  rw [Bool.eq_iff_iff]
  unfold privB
  match p with
  | [] => simp [lowL]
  | [c] => simp [lowL, lowB_x]
  | c :: d :: r => simp [lowL]
theorem privB_len {p : List UInt8} (h : privB p = true) : p.length = 1 := by
  unfold privB at h
  simp at h
  rcases h with h | h <;> simp [h]
theorem madeB_short {p : List UInt8} {lo hi : Nat} {pu : Bool} (h : p.length < lo) : madeB p lo hi pu = false := by
  cases hm : madeB p lo hi pu with
  | false => rfl
  | true => have := (made_len hm).1; omega
theorem madeB_long {p : List UInt8} {lo hi : Nat} {pu : Bool} (h : hi < p.length) : madeB p lo hi pu = false := by
  cases hm : madeB p lo hi pu with
  | false => rfl
  | true => have := (made_len hm).2; omega
theorem priv_no {p : List UInt8} (h : privB p = true) : madeB p 4 4 true = false ∧ regionB p = false ∧ variantB p = false ∧ (madeB p 1 1 false && !privB p) = false := by
  have hl := privB_len h
  refine ⟨madeB_short (by omega), ?_, ?_, by rw [h]; simp⟩
  · unfold regionB
    rw [madeB_short (by omega)]
    have : (p.length == 3) = false := by rw [hl]; rfl
    rw [this]
    rfl
  · unfold variantB
    rw [madeB_short (by omega), madeB_short (by omega)]
    rfl
theorem restF_priv {ps : List (List UInt8)} (h : seesPriv ps = true) : restF [] [] ps = some (noTag, ps) := by
  rcases ps with _ | ⟨p, r⟩
  · cases h
  have hp : privB p = true := h
  obtain ⟨h1, h2, h3, h4⟩ := priv_no hp
  have e1 : oneF (fun p => madeB p 4 4 true) (p :: r) = ([], p :: r) := oneF_no h1
  have e2 : oneF regionB (p :: r) = ([], p :: r) := oneF_no h2
  have e3 : varsF [] (p :: r) = some ([], p :: r) := varsF_no h3
  have e4 : extsF ([].map lowL) (p :: r) = some ([], p :: r) := extsF_no h4
  unfold restF
  simp only [e1, e2, e3, e4]
  rfl
theorem langF_ne {ps : List (List UInt8)} {l e : List UInt8} {r : List (List UInt8)} (h : langF ps = some (l, e, r)) : l ≠ [] := by
  rcases ps with _ | ⟨p, q⟩
  · cases h
  · cases hm : madeB p 2 8 true with
    | false => rw [langF, if_neg (by rw [hm]; simp)] at h; cases h
    | true =>
      rw [langF_yes hm] at h
      have hl := (made_len hm).1
      split at h <;> (cases h; intro e; rw [e] at hl; simp at hl)
theorem variantB_len {p : List UInt8} (h : variantB p = true) : 4 ≤ p.length := by
  unfold variantB at h
  rw [Bool.or_eq_true, Bool.and_eq_true] at h
  rcases h with h | ⟨h, _⟩
  · have := (made_len h).1; omega
  · exact (made_len h).1
/-- what the seen parts and the extensions say of a part of one byte is the same -/
def SeenOK (low exts : List (List UInt8)) : Prop := ∀ p : List UInt8, p.length = 1 → low.contains (lowL p) = dupX exts p
theorem SeenOK.start {vars : List (List UInt8)} (h : ∀ v ∈ vars, 4 ≤ v.length) : SeenOK (vars.map lowL) [] := by
  intro p hp
  have hd : dupX [] p = false := rfl
  rw [hd, ← Bool.not_eq_true, List.contains_iff_mem, List.mem_map]
  rintro ⟨v, hv, he⟩
  have h1 := h v hv
  have h2 := congrArg List.length he
  simp only [lowL, List.length_map] at h2
  omega
theorem SeenOK.step {low exts : List (List UInt8)} (h : SeenOK low exts) {p : List UInt8} (hp : p.length = 1) (m : List (List UInt8)) : SeenOK (low ++ [lowL p]) (exts ++ [joinD (p :: m)]) := by
  intro q hq
  have e : (joinD (p :: m)).take 1 = p := by rw [joinD_flat, ← hp, List.take_left]
  have h1 : dupX (exts ++ [joinD (p :: m)]) q = (dupX exts q || (lowL p == lowL q)) := by
    unfold dupX
    rw [List.any_append]
    simp [e]
  rw [h1, ← h q hq, Bool.eq_iff_iff, List.contains_iff_mem, Bool.or_eq_true, List.contains_iff_mem, List.mem_append, List.mem_singleton, beq_iff_eq]
  exact or_congr Iff.rfl eq_comm
/-- behind all but the private part -/
def finalF : Option (TagL × List (List UInt8)) → Option TagL
  | none => none
  | some (t, []) => some t
  | some (t, p :: r) => if privB p = true then (if privR r = true then some { t with priv := joinD (p :: r) } else none) else none
theorem finalF_cons (t : TagL) (p : List UInt8) (r : List (List UInt8)) : finalF (some (t, p :: r)) = if privB p = true then (if privR r = true then some { t with priv := joinD (p :: r) } else none) else none := rfl
theorem tagTail_all : ∀ (r : List (List UInt8)), (r.all fun q => madeB q 1 8 false) = true → tagTail 1 r = (r, [])
  | [], _ => rfl
  | p :: r, h => by
    rw [List.all_cons, Bool.and_eq_true] at h
    rw [tagTail_yes h.1, tagTail_all r h.2]
theorem tagTail_part : ∀ (r : List (List UInt8)), (r.all fun q => madeB q 1 8 false) = false → (tagTail 1 r).2 ≠ []
  | [], h => by cases h
  | p :: r, h => by
    cases hm : madeB p 1 8 false with
    | false => rw [tagTail_no hm]; simp
    | true =>
      rw [List.all_cons, hm, Bool.true_and] at h
      rw [tagTail_yes hm]
      exact tagTail_part r h
theorem tagP_final (ps : List (List UInt8)) : tagP ps = finalF (frontF ps) := by
  unfold tagP
  rcases frontF ps with _ | ⟨t, r⟩
  · rfl
  · rcases r with _ | ⟨p, r⟩
    · rfl
    · simp only [finalF]
      split
      · cases ha : r.all fun q => madeB q 1 8 false with
        | true =>
          rw [tagTail_all r ha]
          rcases r with _ | ⟨q, r⟩
          · simp [privR]
          · have hp : privR (q :: r) = true := by
              unfold privR
              rw [ha]
              rfl
            simp [hp]
        | false =>
          have h2 := tagTail_part r ha
          have hp : privR r = false := by unfold privR; rw [ha, Bool.and_false]
          rw [hp]
          simp [h2]
      · rfl

theorem ext3_suf : ∀ (n : Nat) (ps : List (List UInt8)), (ext3 n ps).2 <:+ ps
  | 0, ps => List.suffix_refl _
  | _ + 1, [] => List.suffix_refl _
  | n + 1, p :: r => by
    have ih := ext3_suf n r
    cases h : madeB p 3 3 true with
    | true => rw [ext3, if_pos h]; exact ih.trans (List.suffix_cons _ _)
    | false => rw [ext3, if_neg (by rw [h]; simp)]; exact List.suffix_refl _
theorem langF_suf {ps : List (List UInt8)} {l e : List UInt8} {r : List (List UInt8)} (h : langF ps = some (l, e, r)) : r <:+ ps := by
  rcases ps with _ | ⟨p, q⟩
  · cases h
  · cases hm : madeB p 2 8 true with
    | false => rw [langF, if_neg (by rw [hm]; simp)] at h; cases h
    | true =>
      rw [langF_yes hm] at h
      split at h
      · cases h; exact List.suffix_cons _ _
      · cases h; exact (ext3_suf 3 q).trans (List.suffix_cons _ _)
theorem oneF_suf (f : List UInt8 → Bool) (ps : List (List UInt8)) : (oneF f ps).2 <:+ ps := by
  rcases ps with _ | ⟨p, r⟩
  · exact List.suffix_refl _
  · cases h : f p with
    | true => rw [oneF_yes h]; exact List.suffix_cons _ _
    | false => rw [oneF_no (show seesF f (p :: r) = false from h)]; exact List.suffix_refl _
theorem tagTail_suf (lo : Nat) : ∀ ps, (tagTail lo ps).2 <:+ ps
  | [] => List.suffix_refl _
  | p :: r => by
    cases hm : madeB p lo 8 false with
    | true => rw [tagTail_yes hm]; exact (tagTail_suf lo r).trans (List.suffix_cons _ _)
    | false => rw [tagTail_no hm]; exact List.suffix_refl _
theorem joinD_append_le : ∀ (a b : List (List UInt8)), (joinD b).length ≤ (joinD (a ++ b)).length
  | [], b => Nat.le_refl _
  | p :: a, b => by
    have h := joinD_append_le a b
    rw [List.cons_append, joinD_flat, List.length_append]
    rcases hq : a ++ b with _ | ⟨q, r⟩
    · rw [hq] at h
      have e0 : (joinD ([] : List (List UInt8))).length = 0 := rfl
      omega
    · rw [hq, joinD_flat] at h
      have e : flatH (q :: r) = 45 :: (q ++ flatH r) := by simp [flatH]
      rw [e, List.length_cons]
      omega
theorem joinD_suf {r ps : List (List UInt8)} (h : r <:+ ps) : (joinD r).length ≤ (joinD ps).length := by
  obtain ⟨a, rfl⟩ := h
  exact joinD_append_le a r
/-- where the reference's reader and its tag lie -/
structure RC (w : World) (b tb k : Nat) : Prop where
  kb : k ≠ b
  kt : k ≠ tb
  tt : w.heap.size < tb
  bt : tb < b
  kl : k < b
/-- what they hold -/
structure RSt (w wx : World) (b tb k : Nat) (lv : Value) (left : List (List UInt8)) (l x sc rg : List UInt8) (vv ev : Value) (vars exts : List (List UInt8)) : Prop where
  view : ViewAt wx k lv left
  rd : RowAt wx b [lv]
  tg : RowAt wx tb [.string (B l), .string (B x), .string (B sc), .string (B rg), vv, ev, .string ⟨#[]⟩]
  ov : wx.ownsRow (b + 1) 9 1 vv vars.length (vars.map strV)
  oe : wx.ownsRow (b + 1) 9 1 ev exts.length (exts.map strV)
  ap : Apart vv ev
  zr : RowAt wx w.heap.size zeros7
  bl : Below w.heap.size w wx
section
variable {w wx wy : World} {b tb k : Nat} {lv : Value} {left : List (List UInt8)} {l x sc rg : List UInt8} {vv ev : Value} {vars exts : List (List UInt8)}
theorem RSt.lb (h : RSt w wx b tb k lv left l x sc rg vv ev vars exts) : b < wx.heap.size := World.block_lt_of_cell? _ _ (row_of h.rd 0 _ rfl).1
theorem RSt.lt (h : RSt w wx b tb k lv left l x sc rg vv ev vars exts) : tb < wx.heap.size := World.block_lt_of_cell? _ _ (row_of h.tg 0 _ rfl).1
theorem RSt.lz (h : RSt w wx b tb k lv left l x sc rg vv ev vars exts) : w.heap.size < wx.heap.size := World.block_lt_of_cell? _ _ (row_of h.zr 0 _ rfl).1
theorem RSt.below (h : RSt w wx b tb k lv left l x sc rg vv ev vars exts) (hb : Below wx.heap.size wx wy) : RSt w wy b tb k lv left l x sc rg vv ev vars exts :=
  ⟨h.view.below hb, h.rd.below hb h.lb, h.tg.below hb h.lt, ownsRow_below h.ov hb, ownsRow_below h.oe hb, h.ap, h.zr.below hb h.lz, h.bl.trans (hb.mono h.bl.size)⟩
theorem RSt.next (C : RC w b tb k) {lv' : Value} {left' : List (List UInt8)} (h : RSt w wx b tb k lv left l x sc rg vv ev vars exts) (hv : ViewAt wy k lv' left') (hr : RowAt wy b [lv']) (hg : wx.grownBy wy (some b)) : RSt w wy b tb k lv' left' l x sc rg vv ev vars exts :=
  ⟨hv, hr, h.tg.grown hg (by have := C.bt; simp; omega) h.lt, own_kept h.ov hg (Nat.lt_succ_self _), own_kept h.oe hg (Nat.lt_succ_self _), h.ap, h.zr.grown hg (by have := C.bt; have := C.tt; simp; omega) h.lz,
    h.bl.grown hg h.bl.size (fun j hj => by cases hj; have := C.bt; have := C.tt; omega)⟩
theorem own_kept2 {w w' : World} {base b : Nat} {e : TypeId} {v : Value} {n : Nat} {xs : List Value} (h : w.ownsRow base e 1 v n xs) (hg : w.grownBy w' (some b)) (hb : b < base) : w'.ownsRow base e 1 v n xs := own_kept h hg hb
theorem RSt.script (C : RC w b tb k) (h : RSt w wx b tb k lv left l x sc rg vv ev vars exts) (p : List UInt8) : RSt w (wx.setCell ⟨tb, 2, none⟩ (.string (B p))) b tb k lv left l x p rg vv ev vars exts := by
  have hg := grownBy_set wx tb 2 (.string (B p))
  have h1 := C.bt
  have h2 := C.tt
  exact ⟨h.view.grown hg (by simpa using C.kt), h.rd.grown hg (by simp; omega) h.lb, h.tg.set (j := 2) (by simp) _, own_kept h.ov hg (by omega), own_kept h.oe hg (by omega), h.ap, h.zr.grown hg (by simp; omega) h.lz, h.bl.grown hg h.bl.size (fun j hj => by cases hj; omega)⟩
theorem RSt.region (C : RC w b tb k) (h : RSt w wx b tb k lv left l x sc rg vv ev vars exts) (p : List UInt8) : RSt w (wx.setCell ⟨tb, 3, none⟩ (.string (B p))) b tb k lv left l x sc p vv ev vars exts := by
  have hg := grownBy_set wx tb 3 (.string (B p))
  have h1 := C.bt
  have h2 := C.tt
  exact ⟨h.view.grown hg (by simpa using C.kt), h.rd.grown hg (by simp; omega) h.lb, h.tg.set (j := 3) (by simp) _, own_kept h.ov hg (by omega), own_kept h.oe hg (by omega), h.ap, h.zr.grown hg (by simp; omega) h.lz, h.bl.grown hg h.bl.size (fun j hj => by cases hj; omega)⟩
/-- where the reader has failed at the language -/
theorem RSt.frame0 (C : RC w b tb k) (h : RSt w wx b tb k lv left l x sc rg vv ev vars exts) (hg : FrameX wx wy [b, tb]) : RowAt wy w.heap.size zeros7 ∧ Below w.heap.size w wy := by
  have h1 := C.bt
  have h2 := C.tt
  exact ⟨hg.row h.zr h.lz (by simp; omega), FrameX.below h.bl hg h.bl.size (fun c hc => by simp at hc; omega)⟩
theorem RSt.lang (C : RC w b tb k) {lv' : Value} {left' : List (List UInt8)} {l' x' : List UInt8} (h : RSt w wx b tb k lv left l x sc rg vv ev vars exts) (hg : FrameX wx wy [b, tb]) (hv : ViewAt wy k lv' left') (hr : RowAt wy b [lv'])
    (ht : RowAt wy tb [.string (B l'), .string (B x'), .string (B sc), .string (B rg), vv, ev, .string ⟨#[]⟩]) : RSt w wy b tb k lv' left' l' x' sc rg vv ev vars exts := by
  have h1 := C.bt
  have h2 := C.tt
  obtain ⟨hz, hb⟩ := h.frame0 C hg
  exact ⟨hv, hr, ht, hg.own h.ov (fun g hgx => by have := (h.ov.lt g hgx).1; simp; omega), hg.own h.oe (fun g hgx => by have := (h.oe.lt g hgx).1; simp; omega), h.ap, hz, hb⟩
/-- the variants' row has grown -/
theorem RSt.tgV (C : RC w b tb k) (h : RSt w wx b tb k lv left l x sc rg vv ev vars exts) (hg : wx.grownBy wy vv.ownBlock) : RowAt wy tb [.string (B l), .string (B x), .string (B sc), .string (B rg), vv, ev, .string ⟨#[]⟩] :=
  h.tg.grown hg (fun e => by have := (h.ov.lt tb e.symm).1; have := C.bt; omega) h.lt
theorem RSt.appV (C : RC w b tb k) {v9 : Value} {p : List UInt8} {n : Nat} (h : RSt w wx b tb k lv left l x sc rg vv ev vars exts) (hg : wx.grownBy wy vv.ownBlock) (ho : wy.ownsRow (b + 1) 9 1 v9 (vars ++ [p]).length ((vars ++ [p]).map strV))
    (hb : v9.ownBlock = vv.ownBlock ∨ v9.ownBlock = some n) (hn : wx.heap.size ≤ n) : RSt w (wy.setCell ⟨tb, 4, none⟩ v9) b tb k lv left l x sc rg v9 ev (vars ++ [p]) exts := by
  have h1 := C.bt
  have h2 := C.tt
  have h3 := C.kl
  have hs := grownBy_set wy tb 4 v9
  have lt := h.ov.lt
  have nb : some b ≠ vv.ownBlock := fun e => by have := (lt b e.symm).1; omega
  have nk : some k ≠ vv.ownBlock := fun e => by have := (lt k e.symm).1; omega
  have nz : some w.heap.size ≠ vv.ownBlock := fun e => by have := (lt _ e.symm).1; omega
  exact ⟨(h.view.grown hg nk).grown hs (by simpa using C.kt), (h.rd.grown hg nb h.lb).grown hs (by simp; omega) (by have := hg.size; have := h.lb; omega), (h.tgV C hg).set (j := 4) (by simp) _, own_kept ho hs (by omega),
    own_kept (h.oe.kept hg h.ap.symm.ne) hs (by omega), h.ap.grows hb (fun g hg => by have := (h.oe.lt g hg).2; omega), (h.zr.grown hg nz h.lz).grown hs (by simp; omega) (by have := hg.size; have := h.lz; omega),
    (h.bl.grown hg h.bl.size (fun j hj => by have := (lt j hj).1; omega)).grown hs (by have := h.bl.size; have := hg.size; omega) (fun j hj => by cases hj; omega)⟩
/-- where the reader has failed at an extension -/
theorem RSt.frameE (C : RC w b tb k) (h : RSt w wx b tb k lv left l x sc rg vv ev vars exts) (hg : FrameX wx wy (b :: tb :: ev.ownBlock.toList)) : RowAt wy w.heap.size zeros7 ∧ Below w.heap.size w wy := by
  have h1 := C.bt
  have h2 := C.tt
  have hm : ∀ c, c ∈ b :: tb :: ev.ownBlock.toList → w.heap.size < c := fun c hc => by
    rcases List.mem_cons.1 hc with rfl | hc
    · omega
    · rcases List.mem_cons.1 hc with rfl | hc
      · exact h2
      · have := (h.oe.lt c (by simpa using hc)).1; omega
  exact ⟨hg.row h.zr h.lz (fun hc => Nat.lt_irrefl _ (hm _ hc)), FrameX.below h.bl hg h.bl.size (fun c hc => Nat.le_of_lt (hm c hc))⟩
theorem RSt.ext (C : RC w b tb k) {lv' ev' : Value} {left' : List (List UInt8)} {p : List UInt8} (h : RSt w wx b tb k lv left l x sc rg vv ev vars exts) (hg : FrameX wx wy (b :: tb :: ev.ownBlock.toList)) (hv : ViewAt wy k lv' left') (hr : RowAt wy b [lv'])
    (ht : RowAt wy tb [.string (B l), .string (B x), .string (B sc), .string (B rg), vv, ev', .string ⟨#[]⟩]) (ho : wy.ownsRow (b + 1) 9 1 ev' (exts ++ [p]).length ((exts ++ [p]).map strV))
    (hb : ev'.ownBlock = ev.ownBlock ∨ ∃ g, wx.heap.size ≤ g ∧ ev'.ownBlock = some g) : RSt w wy b tb k lv' left' l x sc rg vv ev' vars (exts ++ [p]) := by
  have h1 := C.bt
  have h2 := C.tt
  obtain ⟨hz, hbl⟩ := h.frameE C hg
  refine ⟨hv, hr, ht, hg.own h.ov (fun g hgx => ?_), ho, ?_, hz, hbl⟩
  · have := (h.ov.lt g hgx).1
    intro hm
    rcases List.mem_cons.1 hm with rfl | hm
    · omega
    · rcases List.mem_cons.1 hm with rfl | hm
      · omega
      · exact h.ap g hgx (by simpa using hm)
  · intro g hgx he
    rcases hb with e | ⟨n, hn, e⟩
    · exact h.ap g hgx (e ▸ he)
    · rw [e] at he
      cases he
      have := (h.ov.lt _ hgx).2
      omega
theorem RSt.frameP (C : RC w b tb k) (h : RSt w wx b tb k lv left l x sc rg vv ev vars exts) (hg : FrameX wx wy [tb]) : RowAt wy w.heap.size zeros7 ∧ Below w.heap.size w wy ∧ wy.ownsRow (b + 1) 9 1 vv vars.length (vars.map strV) ∧ wy.ownsRow (b + 1) 9 1 ev exts.length (exts.map strV) := by
  have h1 := C.bt
  have h2 := C.tt
  exact ⟨hg.row h.zr h.lz (by simp; omega), FrameX.below h.bl hg h.bl.size (fun c hc => by simp at hc; omega), hg.own h.ov (fun g hgx => by have := (h.ov.lt g hgx).1; simp; omega), hg.own h.oe (fun g hgx => by have := (h.oe.lt g hgx).1; simp; omega)⟩
end
end Go.Proofs.YtfjcbodkjjmagaaDoor
