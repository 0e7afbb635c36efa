/-
  lexis.Lexer.Next and tesseraref10.Lexer.Next, asked on behind what is wrong: contracts. By an AI agent.
-/
import Derived.Test.YtdhmpakhdhdebaaGreatDoorZLexR14
import Derived.Test.YtdhmpakhdhdebaaGreatDoorZAs
namespace Go.Proofs.YtdhmpakhdhdebaaGreatDoor
open Go.RowKit
set_option maxRecDepth 100000
set_option maxHeartbeats 1600000 in
theorem lexNext_again (l : List UInt8) (bad : Int) (i b : Nat) (q : Nat × Int) (v2 : Value) (w : World) (h : LexAt w b l bad i v2) (he : ErrIs w v2 (.inr q)) :
   Calls Tryz.prog 25 #[.pointer (some ⟨b, 0, none⟩)] w (FailPost w b l bad i q) := by
 obtain ⟨p, n⟩ := q
 obtain ⟨W, hW⟩ : ∃ W, w.alloc (.cells #[.int .i64 0, .string ⟨#[]⟩, .string ⟨#[]⟩, .string ⟨#[]⟩, .int .i64 0, .int .i64 0] 50) = W := ⟨_, rfl⟩
 have HB0 : Hid (Below w.heap.size w W) := Lib.hid (by rw [<- hW]; exact (Below.refl _ _).alloc (Nat.le_refl _) _)
 have HT : Hid (RowAt W w.heap.size TokZ) := Lib.hid (by rw [<- hW]; exact one_new w)
 have HX := Lib.hid (h.below HB0.out)
 have HE := Lib.hid (he.below HB0.out)
 have hn0 : ¬ b = w.heap.size := by have := h.lt; omega
 have HG : Hid (w.grownBy W (some b)) := Lib.hid (below_grown HB0.out _)
 have FR := Lib.hid (fun (u : World) (hx : LexAt u b l bad i v2) (he : ErrIs u v2 (.inr (p, n))) => lexFresh_l l bad i v2 b p n u hx he)
 obtain ⟨eb, rfl, _, _⟩ := he
 obtain ⟨x0, x1, x2, x3, f0, f1, f2, f3⟩ := RowAt.four HX.out
 have hbl := HX.out.lt
 obtain ⟨⟨a0, a1, a2, a3, a4, a5⟩, p0, p1, p2, p3, p4, p5⟩ := row6 HT.out
 have hlt := HT.out.inside
 clear h
 go_enter Tryz.func25, Tryz.ntmps25
 go_wp2_with (go_at_call 42; (refine (FR.out _ HX.out HE.out).mono ?_); rintro e w4 ⟨⟨v, rfl, hv⟩, hb4⟩; have HT4 := Lib.hid (RowAt.below HT.out hb4 HT.out.inside); have HX4 := Lib.hid (HX.out.below hb4); have HE4 := Lib.hid hv; have HF4 := Lib.hid (HE.out.below hb4); have HG4 := Lib.hid (below_grown hb4 (some b)); clear hv hb4; clear x0 x1 x2 x3 f0 f1 f2 f3 hbl a0 a1 a2 a3 a4 a5 p0 p1 p2 p3 p4 p5 hlt; obtain ⟨⟨a0, a1, a2, a3, a4, a5⟩, p0, p1, p2, p3, p4, p5⟩ := row6 HT4.out; have hlt := HT4.out.inside)
 refine fail_from (s := 2) (s' := 3) rfl HG.out (Nat.le_refl _) hn0 HT.out rfl ⟨_, rfl⟩ HX4.out HE4.out HF4.out HG4.out ?_ ?_ <;> rfl
set_option maxHeartbeats 1600000 in
theorem refAgain10_l (l : List UInt8) (less : Bool) (i b : Nat) (p n : Int) (hn : n ≠ 0) (w : World) (h : RLex w b l i less p n) :
   Calls Tryz.prog 26 #[.pointer (some ⟨b, 0, none⟩)] w fun e w' => e = .returned (.tuple #[tokV 0 ⟨#[]⟩ ⟨#[]⟩ ⟨#[]⟩ 0 0, .agg #[.int .i64 p, .int .i64 n]]) /\ RLex w' b l i less p n /\ w.grownBy w' (some b) := by
 obtain ⟨W, hW⟩ : ∃ W, (w.alloc (.cells #[.int .i64 0, .string ⟨#[]⟩, .string ⟨#[]⟩, .string ⟨#[]⟩, .int .i64 0, .int .i64 0] 50)).alloc (.cells #[.int .i64 0, .int .i64 0] 64) = W := ⟨_, rfl⟩
 have hB0 : Below w.heap.size w W := by rw [<- hW]; exact ((Below.refl _ _).alloc (Nat.le_refl _) _).alloc (by simp) _
 have HK : Hid (TkAt W w.heap.size) := Lib.hid (by rw [<- hW]; exact tkr_new w)
 have HX := Lib.hid (RowAt.below h hB0 h.inside)
 have HG : Hid (w.grownBy W (some b)) := Lib.hid (below_grown hB0 _)
 have hbw := h.inside
 have hn0 : ¬ b = w.heap.size := by omega
 have hn1 : ¬ b = w.heap.size + 1 := by omega
 have n1 : (n != 0) = true := bne_iff_ne.2 hn
 have n2 : (n == 0) = false := beq_eq_false_iff_ne.2 hn
 obtain ⟨a0, a1, a2, a3, a4, a5, p0, p1, p2, p3, p4, p5, d0, d1, e0, e1, hlt⟩ := HK.out
 have hlt0 := Nat.lt_of_succ_lt hlt
 obtain ⟨⟨x0, x1, x2, x3, x4⟩, ⟨f1, f3, f4⟩, hbl⟩ := row5 HX.out
 clear h hB0
 go_enter Tryz.func26, Tryz.ntmps26
 go_upto_region 2 with fail
 go_region
 go_wp2_with fail
 exact rnext_drew (k := 0) (x := ⟨#[]⟩) (y := ⟨#[]⟩) (z := ⟨#[]⟩) (a := 0) (e := 0) (p := p) (n := n) (fn := Tryz.f26) rfl HK.out (Nat.le_refl _) HX.out hn0 hn1 HG.out rfl rfl
end Go.Proofs.YtdhmpakhdhdebaaGreatDoor
namespace Go.Proofs.YtdhmpakhdhdebaaGreatDoor
open Go.RowKit
set_option maxRecDepth 100000
def LexP (w : World) (b : Nat) (l : List UInt8) (less : Bool) : Nat ⊕ (Nat × Int) -> Prop
 | .inl i => i <= l.length /\ LexAt w b l (badV l less) i .nilIface
 | .inr q => ∃ i v, LexAt w b l (badV l less) i v /\ ErrIs w v (.inr q)
def RefP (w : World) (b : Nat) (l : List UInt8) (less : Bool) : Nat ⊕ (Nat × Int) -> Prop
 | .inl i => i <= l.length /\ RLex w b l i less 0 0
 | .inr q => q.2 ≠ 0 /\ ∃ i, RLex w b l i less (q.1 : Int) q.2
def ansS (l : List UInt8) (less : Bool) : Nat ⊕ (Nat × Int) -> TokR
 | .inl i => stepG l less i
 | .inr q => .inr q
def nextS (l : List UInt8) (less : Bool) (s : Nat ⊕ (Nat × Int)) : Nat ⊕ (Nat × Int) := match ansS l less s with
 | .inl t => .inl t.fin.toNat
 | .inr q => .inr q
def tokT : TokR -> Value
 | .inl t => tokV t.kind (B t.text) (B t.loc) (B t.typ) t.at_ t.fin
 | .inr _ => tokV 0 ⟨#[]⟩ ⟨#[]⟩ ⟨#[]⟩ 0 0
def fltT : TokR -> Value
 | .inl _ => .agg #[.int .i64 0, .int .i64 0]
 | .inr q => .agg #[.int .i64 (q.1 : Int), .int .i64 q.2]
def ErrT (w : World) (v : Value) : TokR -> Prop
 | .inl _ => v = .nilIface
 | .inr q => ErrIs w v (.inr q)
theorem ErrT.below {w w' : World} {v : Value} {r : TokR} (h : ErrT w v r) (hb : Below w.heap.size w w') : ErrT w' v r := by
 rcases r with t | q
 · exact h
 · exact ErrIs.below (x := .inr q) h hb
theorem step_fin {l : List UInt8} {less : Bool} {i : Nat} {t : TokL} (hi : i <= l.length) (h : stepG l less i = .inl t) : t.fin.toNat <= l.length := by
 rcases ((step_at (less := less) hi).1 t h).1 with ⟨rfl, _⟩ | ⟨_, _, ⟨_, ⟨e, he, _, h2⟩, _⟩, _⟩
 · simp
 · rw [he]; simpa using h2
theorem lexStep (l : List UInt8) (less : Bool) (s : Nat ⊕ (Nat × Int)) (b : Nat) (w : World) (h : LexP w b l less s) (hl : l.length <= 1048576) (hTM : ∀ u, w.grownBy u (some b) -> TabAt u /\ MaxAt u) :
   Calls Tryz.prog 25 #[.pointer (some ⟨b, 0, none⟩)] w fun e w' => ∃ v, e = .returned (.tuple #[tokT (ansS l less s), v]) /\ ErrT w' v (ansS l less s) /\ LexP w' b l less (nextS l less s) /\ w.grownBy w' (some b) := by
 rcases s with i | q
 · obtain ⟨hi, hx⟩ := h
   refine (lexNext_l l less i b w hx hi (by omega) hTM).mono ?_
   rintro e w' (⟨t, ht, rfl, h2, h3⟩ | ⟨q, j, hq, v, v2, rfl, h2, h3, h4, h5⟩)
   · have hf := step_fin hi ht
     have e1 : ansS l less (.inl i) = .inl t := ht
     have e2 : nextS l less (.inl i) = .inl t.fin.toNat := by unfold nextS; rw [e1]
     rw [e1, e2]
     exact ⟨_, rfl, rfl, ⟨hf, h2⟩, h3⟩
   · have e1 : ansS l less (.inl i) = .inr q := hq
     have e2 : nextS l less (.inl i) = .inr q := by unfold nextS; rw [e1]
     rw [e1, e2]
     exact ⟨_, rfl, h3, ⟨j, v2, h2, h4⟩, h5⟩
 · obtain ⟨i, v2, hx, he⟩ := h
   refine (lexNext_again l _ i b q v2 w hx he).mono ?_
   rintro e w' ⟨v, v3, rfl, h2, h3, h4, h5⟩
   exact ⟨_, rfl, h3, ⟨i, v3, h2, h4⟩, h5⟩
theorem refStep (l : List UInt8) (less : Bool) (s : Nat ⊕ (Nat × Int)) (b : Nat) (w : World) (h : RefP w b l less s) (hl : l.length <= 1048576) :
   Calls Tryz.prog 26 #[.pointer (some ⟨b, 0, none⟩)] w fun e w' => e = .returned (.tuple #[tokT (ansS l less s), fltT (ansS l less s)]) /\ RefP w' b l less (nextS l less s) /\ w.grownBy w' (some b) := by
 rcases s with i | ⟨p, n⟩
 · obtain ⟨hi, hx⟩ := h
   have hs := step_at (l := l) (less := less) hi
   refine (refStep10_l l less i b w hx hi hl).mono ?_
   intro e w' hp
   obtain ⟨r, hr⟩ : ∃ r, stepG l less i = r := ⟨_, rfl⟩
   rw [hr] at hp
   have e1 : ansS l less (.inl i) = r := hr
   rcases r with t | ⟨p, n⟩
   · have hf := step_fin hi hr
     have e2 : nextS l less (.inl i) = .inl t.fin.toNat := by unfold nextS; rw [e1]
     rw [e1, e2]
     obtain ⟨rfl, h2, h3⟩ := hp
     exact ⟨rfl, ⟨hf, h2⟩, h3⟩
   · have hn := (hs.2 p n hr).2.2
     have e2 : nextS l less (.inl i) = .inr (p, n) := by unfold nextS; rw [e1]
     rw [e1, e2]
     obtain ⟨rfl, h2, h3⟩ := hp
     exact ⟨rfl, ⟨by simp only; omega, i, h2⟩, h3⟩
 · obtain ⟨hn, i, hx⟩ := h
   refine (refAgain10_l l less i b p n hn w hx).mono ?_
   rintro e w' ⟨rfl, h2, h3⟩
   exact ⟨rfl, ⟨hn, i, h2⟩, h3⟩
theorem fault10_t (r : TokR) (v : Value) (w : World) (hE : ErrType w) (h : ErrT w v r) :
   Calls Tryz.prog 27 #[v] w fun e w' => e = .returned (fltT r) /\ Below w.heap.size w w' := by
 rcases r with t | ⟨p, n⟩
 · exact fault10_l (.inl []) v w hE h
 · exact fault10_l (.inr (p, n)) v w hE h
end Go.Proofs.YtdhmpakhdhdebaaGreatDoor
namespace Go.Proofs.YtdhmpakhdhdebaaGreatDoor
open Go.RowKit
set_option maxRecDepth 100000
theorem head_small (s : List UInt8) : (headL s).length <= s.length := by
 unfold headL
 split
 · exact Nat.le_refl _
 · simp; omega
theorem LexP.lt {w : World} {b : Nat} {l : List UInt8} {less : Bool} {s : Nat ⊕ (Nat × Int)} (h : LexP w b l less s) : ∃ x, w.cell? ⟨b, 0, none⟩ = some (.string x) /\ b < w.heap.size := by
 rcases s with i | q
 · exact ⟨_, RowAt.cell h.2 (j := 0) (by simp), RowAt.inside h.2⟩
 · obtain ⟨i, v, h1, _⟩ := h
   exact ⟨_, RowAt.cell h1 (j := 0) (by simp), RowAt.inside h1⟩
theorem RefP.lt {w : World} {b : Nat} {l : List UInt8} {less : Bool} {s : Nat ⊕ (Nat × Int)} (h : RefP w b l less s) : ∃ x, w.cell? ⟨b, 0, none⟩ = some (.string x) /\ b < w.heap.size := by
 rcases s with i | q
 · exact ⟨_, RowAt.cell h.2 (j := 0) (by simp), RowAt.inside h.2⟩
 · obtain ⟨_, i, h1⟩ := h
   exact ⟨_, RowAt.cell h1 (j := 0) (by simp), RowAt.inside h1⟩
theorem ErrT.grown {w w' : World} {v : Value} {r : TokR} {b : Nat} {x : ByteArray} (h : ErrT w v r) (hg : w.grownBy w' (some b)) (hx : w.cell? ⟨b, 0, none⟩ = some (.string x)) : ErrT w' v r := by
 rcases r with t | ⟨p, n⟩
 · exact h
 · obtain ⟨e, rfl, h1, h2⟩ := h
   have hne : some e ≠ some b := fun k => by
     have k := Option.some.inj k
     rw [k, hx] at h1
     cases h1
   exact ⟨e, rfl, cell_grown h1 hg hne, cell_grown h2 hg hne⟩
theorem LexP.grown {w w' : World} {b g : Nat} {l : List UInt8} {less : Bool} {s : Nat ⊕ (Nat × Int)} {x : ByteArray} (h : LexP w b l less s) (hg : w.grownBy w' (some g)) (hx : w.cell? ⟨g, 0, none⟩ = some (.string x)) (hne : b ≠ g) : LexP w' b l less s := by
 rcases s with i | q
 · exact ⟨h.1, RowAt.grows h.2 (by simp) hg hne⟩
 · obtain ⟨i, v, h1, h2⟩ := h
   exact ⟨i, v, RowAt.grows h1 (by simp) hg hne, ErrT.grown (r := .inr q) h2 hg hx⟩
theorem RefP.grown {w w' : World} {b g : Nat} {l : List UInt8} {less : Bool} {s : Nat ⊕ (Nat × Int)} (h : RefP w b l less s) (hg : w.grownBy w' (some g)) (hne : b ≠ g) : RefP w' b l less s := by
 rcases s with i | q
 · exact ⟨h.1, RowAt.grows h.2 (by simp) hg hne⟩
 · obtain ⟨h0, i, h1⟩ := h
   exact ⟨h0, i, RowAt.grows h1 (by simp) hg hne⟩
theorem LexP.below {w w' : World} {b : Nat} {l : List UInt8} {less : Bool} {s : Nat ⊕ (Nat × Int)} (h : LexP w b l less s) (hb : Below w.heap.size w w') : LexP w' b l less s := by
 rcases s with i | q
 · exact ⟨h.1, RowAt.below h.2 hb (RowAt.inside h.2)⟩
 · obtain ⟨i, v, h1, h2⟩ := h
   exact ⟨i, v, RowAt.below h1 hb (RowAt.inside h1), ErrT.below (r := .inr q) h2 hb⟩
theorem RefP.below {w w' : World} {b : Nat} {l : List UInt8} {less : Bool} {s : Nat ⊕ (Nat × Int)} (h : RefP w b l less s) (hb : Below w.heap.size w w') : RefP w' b l less s := by
 rcases s with i | q
 · exact ⟨h.1, RowAt.below h.2 hb (RowAt.inside h.2)⟩
 · obtain ⟨h0, i, h1⟩ := h
   exact ⟨h0, i, RowAt.below h1 hb (RowAt.inside h1)⟩
structure Four (w0 : World) (l m : List UInt8) (x y : Bool) (a b c d e f : Nat) (w : World) (sa sb sc sd : Nat ⊕ (Nat × Int)) : Prop where
 pa : LexP w a l x sa
 pb : LexP w b m y sb
 pc : RefP w c l x sc
 pd : RefP w d m y sd
 re : RowAt w e [.pointer (some ⟨a, 0, none⟩), .pointer (some ⟨b, 0, none⟩)]
 rf : RowAt w f [.pointer (some ⟨c, 0, none⟩), .pointer (some ⟨d, 0, none⟩)]
 hh : w0.heap.size <= a /\ a < b /\ b < e /\ e < c /\ c < d /\ d < f
 bw : Below w0.heap.size w0 w
theorem Four.below {w0 w w' : World} {l m : List UInt8} {x y : Bool} {a b c d e f : Nat} {sa sb sc sd : Nat ⊕ (Nat × Int)} (h : Four w0 l m x y a b c d e f w sa sb sc sd) (hb : Below w.heap.size w w') : Four w0 l m x y a b c d e f w' sa sb sc sd :=
 ⟨h.pa.below hb, h.pb.below hb, h.pc.below hb, h.pd.below hb, RowAt.below h.re hb h.re.inside, RowAt.below h.rf hb h.rf.inside, h.hh, h.bw.trans (hb.mono h.bw.size)⟩
theorem tokT_any (r : TokR) : ∃ k x y z a f, tokT r = tokV k x y z a f := by
 cases r <;> exact ⟨_, _, _, _, _, _, rfl⟩
theorem fltT_any (r : TokR) : ∃ p n, fltT r = .agg #[.int .i64 p, .int .i64 n] := by
 cases r <;> exact ⟨_, _, rfl⟩
def TMs (w0 : World) : Prop := ∀ u, Below w0.heap.size w0 u -> TabAt u /\ MaxAt u
theorem Four.nextA {w0 w : World} {l m : List UInt8} {x y : Bool} {a b c d e f : Nat} {sa sb sc sd : Nat ⊕ (Nat × Int)} (h : Four w0 l m x y a b c d e f w sa sb sc sd) (hl : l.length <= 1048576) (hTM : TMs w0) :
   Calls Tryz.prog 25 #[.pointer (some ⟨a, 0, none⟩)] w fun ev w1 => ∃ v, ev = .returned (.tuple #[tokT (ansS l x sa), v]) /\ ErrT w1 v (ansS l x sa) /\ Four w0 l m x y a b c d e f w1 (nextS l x sa) sb sc sd := by
 have hh := h.hh
 obtain ⟨z, hz, _⟩ := h.pa.lt
 refine (lexStep l x sa a w h.pa hl (fun u hu => hTM u (h.bw.grown hu h.bw.size (fun k e => by have := Option.some.inj e; omega)))).mono ?_
 rintro ev w1 ⟨v, rfl, hv, hp, hg⟩
 exact ⟨v, rfl, hv, hp, h.pb.grown hg hz (by omega), h.pc.grown hg (by omega), h.pd.grown hg (by omega), RowAt.grows h.re (by simp) hg (by omega), RowAt.grows h.rf (by simp) hg (by omega), hh, h.bw.grown hg h.bw.size (fun k e => by have := Option.some.inj e; omega)⟩
theorem Four.nextB {w0 w : World} {l m : List UInt8} {x y : Bool} {a b c d e f : Nat} {sa sb sc sd : Nat ⊕ (Nat × Int)} (h : Four w0 l m x y a b c d e f w sa sb sc sd) (hl : m.length <= 1048576) (hTM : TMs w0) :
   Calls Tryz.prog 25 #[.pointer (some ⟨b, 0, none⟩)] w fun ev w1 => ∃ v, ev = .returned (.tuple #[tokT (ansS m y sb), v]) /\ ErrT w1 v (ansS m y sb) /\ Four w0 l m x y a b c d e f w1 sa (nextS m y sb) sc sd := by
 have hh := h.hh
 obtain ⟨z, hz, _⟩ := h.pb.lt
 refine (lexStep m y sb b w h.pb hl (fun u hu => hTM u (h.bw.grown hu h.bw.size (fun k e => by have := Option.some.inj e; omega)))).mono ?_
 rintro ev w1 ⟨v, rfl, hv, hp, hg⟩
 exact ⟨v, rfl, hv, h.pa.grown hg hz (by omega), hp, h.pc.grown hg (by omega), h.pd.grown hg (by omega), RowAt.grows h.re (by simp) hg (by omega), RowAt.grows h.rf (by simp) hg (by omega), hh, h.bw.grown hg h.bw.size (fun k e => by have := Option.some.inj e; omega)⟩
theorem Four.nextC {w0 w : World} {l m : List UInt8} {x y : Bool} {a b c d e f : Nat} {sa sb sc sd : Nat ⊕ (Nat × Int)} (h : Four w0 l m x y a b c d e f w sa sb sc sd) (hl : l.length <= 1048576) {v : Value} {r : TokR} (hv : ErrT w v r) :
   Calls Tryz.prog 26 #[.pointer (some ⟨c, 0, none⟩)] w fun ev w1 => ev = .returned (.tuple #[tokT (ansS l x sc), fltT (ansS l x sc)]) /\ ErrT w1 v r /\ Four w0 l m x y a b c d e f w1 sa sb (nextS l x sc) sd /\ w.grownBy w1 (some c) := by
 have hh := h.hh
 obtain ⟨z, hz, _⟩ := h.pc.lt
 refine (refStep l x sc c w h.pc hl).mono ?_
 rintro ev w1 ⟨rfl, hp, hg⟩
 exact ⟨rfl, hv.grown hg hz, ⟨h.pa.grown hg hz (by omega), h.pb.grown hg hz (by omega), hp, h.pd.grown hg (by omega), RowAt.grows h.re (by simp) hg (by omega), RowAt.grows h.rf (by simp) hg (by omega), hh, h.bw.grown hg h.bw.size (fun k e => by have := Option.some.inj e; omega)⟩, hg⟩
theorem Four.nextD {w0 w : World} {l m : List UInt8} {x y : Bool} {a b c d e f : Nat} {sa sb sc sd : Nat ⊕ (Nat × Int)} (h : Four w0 l m x y a b c d e f w sa sb sc sd) (hl : m.length <= 1048576) {v : Value} {r : TokR} (hv : ErrT w v r) :
   Calls Tryz.prog 26 #[.pointer (some ⟨d, 0, none⟩)] w fun ev w1 => ev = .returned (.tuple #[tokT (ansS m y sd), fltT (ansS m y sd)]) /\ ErrT w1 v r /\ Four w0 l m x y a b c d e f w1 sa sb sc (nextS m y sd) /\ w.grownBy w1 (some d) := by
 have hh := h.hh
 obtain ⟨z, hz, _⟩ := h.pd.lt
 refine (refStep m y sd d w h.pd hl).mono ?_
 rintro ev w1 ⟨rfl, hp, hg⟩
 exact ⟨rfl, hv.grown hg hz, ⟨h.pa.grown hg hz (by omega), h.pb.grown hg hz (by omega), h.pc.grown hg (by omega), hp, RowAt.grows h.re (by simp) hg (by omega), RowAt.grows h.rf (by simp) hg (by omega), hh, h.bw.grown hg h.bw.size (fun k e => by have := Option.some.inj e; omega)⟩, hg⟩
theorem undrew {V w : World} (h : Below V.drew.heap.size V.drew w) : Below V.heap.size V w := ((Below.refl V.heap.size V).drew).trans h
set_option maxHeartbeats 3200000 in
theorem lexSteps_walk (s t : List UInt8) (bs : List Bool) (p : Option Addr) (cap : Nat) (w : World) (hA : At w p (bs.map Value.bool)) (hs : s.length <= 1048576) (ht : t.length <= 1048576) (hbl : bs.length <= 1048576) (hcap : bs.length <= cap) (hT : TabAt w) (hM : MaxAt w) (hE : ErrType w) :
   Calls Tryz.prog 7 #[.string (B s), .string (B t), .slice p bs.length cap] w fun e w' => e = .returned (.bool true) /\ Below w.heap.size w w' := by
 have N1 := Lib.hid (fun u => lexNew_l s u (by omega))
 have N2 := Lib.hid (fun u => lexNew_l t u (by omega))
 have R1 := Lib.hid (fun u => refNew10_l s u (by omega))
 have R2 := Lib.hid (fun u => refNew10_l t u (by omega))
 have HTM : Hid (TMs w) := Lib.hid (fun u hu => ⟨hT.below hu, hM.below hu⟩)
 have HER : Hid (∀ u, Below w.heap.size w u -> ErrType u /\ At u p (bs.map Value.bool)) := Lib.hid (fun u hu => ⟨hE.below hu, hA.below hu⟩)
 have hls : (headL s).length <= 1048576 := by have := head_small s; omega
 have hlt : (headL t).length <= 1048576 := by have := head_small t; omega
 clear hT hM hE hA hs ht
 go_enter Tryz.func7, Tryz.ntmps7
 go_upto_region 2 with (first | (go_at_call 23; (with_reducible refine (N1.out _).mono ?_); rintro e w1 ⟨a, rfl, ha, hx1, hb1⟩; have HX1 := Lib.hid hx1; have HB1 := Lib.hid hb1; clear hx1 hb1) | (go_at_call 23; (with_reducible refine (N2.out _).mono ?_); rintro e w2 ⟨b, rfl, hb, hx2, hb2⟩; have HX2 := Lib.hid hx2; have HB2 := Lib.hid hb2; clear hx2 hb2))
 obtain ⟨V2, hV2⟩ : ∃ V2, w2.alloc (.cells #[.pointer (some ⟨a, 0, none⟩), .pointer (some ⟨b, 0, none⟩)] 58) = V2 := ⟨_, rfl⟩
 rw [hV2]
 have hbV : Below w2.heap.size w2 V2 := by rw [<- hV2]; exact (Below.refl _ _).alloc (Nat.le_refl _) _
 have HE2 : Hid (RowAt V2 w2.heap.size [.pointer (some ⟨a, 0, none⟩), .pointer (some ⟨b, 0, none⟩)]) := Lib.hid (by rw [<- hV2]; exact rowAt_of_heap (heap_alloc_new w2 _))
 have o1 : a < w1.heap.size := HX1.out.lt
 have o2 : b < w2.heap.size := HX2.out.lt
 have o3 : w2.heap.size < V2.heap.size := HE2.out.inside
 have HXA := Lib.hid ((HX1.out.below HB2.out).below hbV)
 have HXB := Lib.hid (HX2.out.below hbV)
 have HBV := Lib.hid ((HB1.out.trans (HB2.out.mono HB1.out.size)).trans (hbV.mono (Nat.le_trans HB1.out.size HB2.out.size)))
 clear hV2 hbV HX1 HX2 HB1 HB2
 generalize w2.heap.size = e at *
 go_upto_region 3 with (first | (go_at_call 24; (with_reducible refine (R1.out _).mono ?_); rintro e w3 ⟨c, rfl, hc, hx3, hb3⟩; have HX3 := Lib.hid hx3; have HB3 := Lib.hid hb3; clear hx3 hb3) | (go_at_call 24; (with_reducible refine (R2.out _).mono ?_); rintro e w4 ⟨d, rfl, hd, hx4, hb4⟩; have HX4 := Lib.hid hx4; have HB4 := Lib.hid hb4; clear hx4 hb4))
 obtain ⟨V4, hV4⟩ : ∃ V4, w4.alloc (.cells #[.pointer (some ⟨c, 0, none⟩), .pointer (some ⟨d, 0, none⟩)] 61) = V4 := ⟨_, rfl⟩
 rw [hV4]
 have hbV : Below w4.heap.size w4 V4 := by rw [<- hV4]; exact (Below.refl _ _).alloc (Nat.le_refl _) _
 have hrf : RowAt V4 w4.heap.size [.pointer (some ⟨c, 0, none⟩), .pointer (some ⟨d, 0, none⟩)] := by rw [<- hV4]; exact rowAt_of_heap (heap_alloc_new w4 _)
 have o4 : c < w3.heap.size := HX3.out.inside
 have o5 : d < w4.heap.size := HX4.out.inside
 have hb24 : Below V2.heap.size V2 V4 := (HB3.out.trans (HB4.out.mono HB3.out.size)).trans (hbV.mono (Nat.le_trans HB3.out.size HB4.out.size))
 have hb34 : Below w3.heap.size w3 V4 := HB4.out.trans (hbV.mono HB4.out.size)
 have HF : Hid (Four w (headL s) (headL t) (lessB s) (lessB t) a b c d e w4.heap.size V4 (.inl 0) (.inl 0) (.inl 0) (.inl 0)) := Lib.hid ⟨⟨Nat.zero_le _, HXA.out.below hb24⟩, ⟨Nat.zero_le _, HXB.out.below hb24⟩, ⟨Nat.zero_le _, RowAt.below HX3.out hb34 o4⟩, ⟨Nat.zero_le _, RowAt.below HX4.out hbV o5⟩, RowAt.below HE2.out hb24 o3, hrf, by omega, HBV.out.trans (hb24.mono HBV.out.size)⟩
 clear hV4 hbV hrf o1 o2 o3 o4 o5 hb24 hb34 HX3 HX4 HB3 HB4 HXA HXB HBV HE2 N1 N2 R1 R2 ha hb hc hd
 generalize w4.heap.size = f at *
 generalize headL s = l at *
 generalize headL t = m at *
 generalize lessB s = x at *
 generalize lessB t = y at *
 have hh := HF.out.hh
 obtain ⟨r0, r1, _, _⟩ := two_of HF.out.re
 obtain ⟨r2, r3, _, _⟩ := two_of HF.out.rf
 go_wp2_with fail
 go_loopw [9] (fun v wr => ∃ (i : Nat) (sa sb : Nat ⊕ (Nat × Int)), v = .int .i64 i /\ i <= bs.length /\ Hid (Four w l m x y a b c d e f wr sa sb sa sb)) (fun v _ => bs.length - (intOf v).toNat)
 case atStart => exact ⟨0, .inl 0, .inl 0, rfl, Nat.zero_le _, HF⟩
 case round =>
   obtain ⟨i, sa, sb, rfl, hi, HF2⟩ := hrel
   clear HF r0 r1 r2 r3
   have HF := HF2
   clear HF2
   have W1 : IntKind.i64.wrap ((i : Int) + 1) = (i : Int) + 1 := IntWalk.i64_in _ (by omega)
   obtain ⟨r0, r1, _, _⟩ := two_of HF.out.re
   obtain ⟨r2, r3, _, _⟩ := two_of HF.out.rf
   by_cases hlt2 : i < bs.length
   · have c1 : decide ((i : Int) < (bs.length : Int)) = true := decide_eq_true (by omega)
     have c2 : decide (i < bs.length) = true := decide_eq_true hlt2
     have i0 : 0 <= (i : Int) := by omega
     have i1 : (i : Int) < (bs.length : Int) := by omega
     have i2 : i < cap := by omega
     obtain ⟨pb, po, rfl⟩ := (HER.out _ (Below.refl _ _)).2.place (by rw [List.length_map]; omega)
     have hbi := (HER.out _ HF.out.bw).2.get (j := i) (by rw [List.length_map]; exact hlt2)
     rw [List.getElem_map] at hbi
     cases hbv : bs[i] with
     | false =>
       rw [hbv] at hbi
       clear hbv
       obtain ⟨kx, xx, yx, zx, ax, fx, ht⟩ := tokT_any (ansS l x sa)
       obtain ⟨pf, nf, hf⟩ := fltT_any (ansS l x sa)
       have C1 := HF.out.nextA hls HTM.out
       have C2 := Lib.hid (fun (u : World) (v : Value) (h : Four w l m x y a b c d e f u (nextS l x sa) sb sa sb) (hv : ErrT u v (ansS l x sa)) => h.nextC hls hv)
       have C3 := Lib.hid (fun (u : World) (v : Value) (he : ErrType u) (hv : ErrT u v (ansS l x sa)) => fault10_t (ansS l x sa) v u he hv)
       rw [ht] at C1
       simp only [ht, hf] at C2
       rw [hf] at C3
       replace C1 := Lib.hid C1
       clear ht hf hi
       go_upto_region 12 with (go_at_call 25; (refine C1.out.mono ?_); rintro ev w5 ⟨v, rfl, hv, h5⟩; have HV := Lib.hid hv; have H5 := Lib.hid h5; clear hv h5; unfold tokV)
       obtain ⟨V5, hV5⟩ : ∃ V5, w5.alloc (.cells #[.int .i64 kx, .string xx, .string yx, .string zx, .int .i64 ax, .int .i64 fx] 50) = V5 := ⟨_, rfl⟩
       rw [hV5]
       have hb5 : Below w5.heap.size w5 V5 := by rw [<- hV5]; exact (Below.refl _ _).alloc (Nat.le_refl _) _
       have HT5 : Hid (RowAt V5 w5.heap.size [.int .i64 kx, .string xx, .string yx, .string zx, .int .i64 ax, .int .i64 fx]) := Lib.hid (by rw [<- hV5]; exact rowAt_of_heap (heap_alloc_new w5 _))
       obtain ⟨_, _, o1⟩ := H5.out.pc.lt
       have H5b := Lib.hid (H5.out.below hb5)
       have HV5 := Lib.hid (HV.out.below hb5)
       clear hV5 hb5 r0 r1 r2 r3 HV H5 HF C1 hbi
       generalize w5.heap.size = g5 at *
       have C2 := Lib.hid (C2.out _ _ H5b.out HV5.out)
       obtain ⟨r2, r3, _, _⟩ := two_of H5b.out.rf
       go_upto_region 13 with (go_at_call 26; (refine C2.out.mono ?_); rintro ev w6 ⟨rfl, hv, h6, hg6⟩; have HV6 := Lib.hid hv; have H6 := Lib.hid h6; have HT6 := Lib.hid (RowAt.grows HT5.out (by simp) hg6 (by omega)); clear hv h6 hg6; unfold tokV)
       obtain ⟨V7, hV7⟩ : ∃ V7, (w6.alloc (.cells #[.int .i64 kx, .string xx, .string yx, .string zx, .int .i64 ax, .int .i64 fx] 50)).alloc (.cells #[.int .i64 pf, .int .i64 nf] 64) = V7 := ⟨_, rfl⟩
       rw [hV7]
       obtain ⟨T6, T2, hb7, hs7⟩ := tkBox hV7
       have HRX := Lib.hid (RowAt.below HT6.out hb7 HT6.out.inside)
       have HRY := Lib.hid T6
       have HRF := Lib.hid T2
       have H7b := Lib.hid (H6.out.below hb7)
       have HV7 := Lib.hid (HV6.out.below hb7)
       clear hV7 T6 T2 hb7 hs7 HT5 HT6 H6 HV6 C2 H5b HV5 r2 r3
       generalize w6.heap.size = g6 at *
       obtain ⟨⟨a0, a1, a2, a3, a4, a5⟩, _⟩ := row6 HRX.out
       obtain ⟨⟨b0, b1, b2, b3, b4, b5⟩, _⟩ := row6 HRY.out
       obtain ⟨d0, d1, _, _⟩ := two_of HRF.out
       have C3b := C3
       have H7 := H7b
       have C3 := Lib.hid (C3b.out V7.drew v (HER.out _ H7.out.bw).1 HV7.out)
       clear C3b H7b
       go_cut [65] from 57 to 65 (fun x65 wx => x65 = .bool false /\ Hid (Below V7.heap.size V7 wx))
       case first =>
         go_region_with (go_at_call 27; (with_reducible refine C3.out.mono ?_); rintro ev w8 ⟨rfl, hb8⟩; have HB8 := Lib.hid (undrew hb8); obtain ⟨d2, d3, _, _⟩ := two_of (RowAt.below HRF.out HB8.out HRF.out.inside); clear hb8)
         all_goals (go_wp2_with fail)
         all_goals go_meet
         all_goals exact ⟨rfl, HB8⟩
       case rest =>
         obtain ⟨rfl, HB8⟩ := hcut
         have H8 := Lib.hid (H7.out.below HB8.out)
         clear HB8 H7 C3 HRX HRY HRF a0 a1 a2 a3 a4 a5 b0 b1 b2 b3 b4 b5 d0 d1 HV7
         go_wp2_with fail
         go_roundw
         case rel => exact ⟨i + 1, (nextS l x sa), sb, by go_num, by omega, H8⟩
         case measure => simp [intOf]; omega
     | true =>
       rw [hbv] at hbi
       clear hbv
       obtain ⟨kx, xx, yx, zx, ax, fx, ht⟩ := tokT_any (ansS m y sb)
       obtain ⟨pf, nf, hf⟩ := fltT_any (ansS m y sb)
       have C1 := HF.out.nextB hlt HTM.out
       have C2 := Lib.hid (fun (u : World) (v : Value) (h : Four w l m x y a b c d e f u sa (nextS m y sb) sa sb) (hv : ErrT u v (ansS m y sb)) => h.nextD hlt hv)
       have C3 := Lib.hid (fun (u : World) (v : Value) (he : ErrType u) (hv : ErrT u v (ansS m y sb)) => fault10_t (ansS m y sb) v u he hv)
       rw [ht] at C1
       simp only [ht, hf] at C2
       rw [hf] at C3
       replace C1 := Lib.hid C1
       clear ht hf hi
       go_upto_region 12 with (go_at_call 25; (refine C1.out.mono ?_); rintro ev w5 ⟨v, rfl, hv, h5⟩; have HV := Lib.hid hv; have H5 := Lib.hid h5; clear hv h5; unfold tokV)
       obtain ⟨V5, hV5⟩ : ∃ V5, w5.alloc (.cells #[.int .i64 kx, .string xx, .string yx, .string zx, .int .i64 ax, .int .i64 fx] 50) = V5 := ⟨_, rfl⟩
       rw [hV5]
       have hb5 : Below w5.heap.size w5 V5 := by rw [<- hV5]; exact (Below.refl _ _).alloc (Nat.le_refl _) _
       have HT5 : Hid (RowAt V5 w5.heap.size [.int .i64 kx, .string xx, .string yx, .string zx, .int .i64 ax, .int .i64 fx]) := Lib.hid (by rw [<- hV5]; exact rowAt_of_heap (heap_alloc_new w5 _))
       obtain ⟨_, _, o1⟩ := H5.out.pd.lt
       have H5b := Lib.hid (H5.out.below hb5)
       have HV5 := Lib.hid (HV.out.below hb5)
       clear hV5 hb5 r0 r1 r2 r3 HV H5 HF C1 hbi
       generalize w5.heap.size = g5 at *
       have C2 := Lib.hid (C2.out _ _ H5b.out HV5.out)
       obtain ⟨r2, r3, _, _⟩ := two_of H5b.out.rf
       go_upto_region 13 with (go_at_call 26; (refine C2.out.mono ?_); rintro ev w6 ⟨rfl, hv, h6, hg6⟩; have HV6 := Lib.hid hv; have H6 := Lib.hid h6; have HT6 := Lib.hid (RowAt.grows HT5.out (by simp) hg6 (by omega)); clear hv h6 hg6; unfold tokV)
       obtain ⟨V7, hV7⟩ : ∃ V7, (w6.alloc (.cells #[.int .i64 kx, .string xx, .string yx, .string zx, .int .i64 ax, .int .i64 fx] 50)).alloc (.cells #[.int .i64 pf, .int .i64 nf] 64) = V7 := ⟨_, rfl⟩
       rw [hV7]
       obtain ⟨T6, T2, hb7, hs7⟩ := tkBox hV7
       have HRX := Lib.hid (RowAt.below HT6.out hb7 HT6.out.inside)
       have HRY := Lib.hid T6
       have HRF := Lib.hid T2
       have H7b := Lib.hid (H6.out.below hb7)
       have HV7 := Lib.hid (HV6.out.below hb7)
       clear hV7 T6 T2 hb7 hs7 HT5 HT6 H6 HV6 C2 H5b HV5 r2 r3
       generalize w6.heap.size = g6 at *
       obtain ⟨⟨a0, a1, a2, a3, a4, a5⟩, _⟩ := row6 HRX.out
       obtain ⟨⟨b0, b1, b2, b3, b4, b5⟩, _⟩ := row6 HRY.out
       obtain ⟨d0, d1, _, _⟩ := two_of HRF.out
       have C3b := C3
       have H7 := H7b
       have C3 := Lib.hid (C3b.out V7.drew v (HER.out _ H7.out.bw).1 HV7.out)
       clear C3b H7b
       go_cut [65] from 57 to 65 (fun x65 wx => x65 = .bool false /\ Hid (Below V7.heap.size V7 wx))
       case first =>
         go_region_with (go_at_call 27; (with_reducible refine C3.out.mono ?_); rintro ev w8 ⟨rfl, hb8⟩; have HB8 := Lib.hid (undrew hb8); obtain ⟨d2, d3, _, _⟩ := two_of (RowAt.below HRF.out HB8.out HRF.out.inside); clear hb8)
         all_goals (go_wp2_with fail)
         all_goals go_meet
         all_goals exact ⟨rfl, HB8⟩
       case rest =>
         obtain ⟨rfl, HB8⟩ := hcut
         have H8 := Lib.hid (H7.out.below HB8.out)
         clear HB8 H7 C3 HRX HRY HRF a0 a1 a2 a3 a4 a5 b0 b1 b2 b3 b4 b5 d0 d1 HV7
         go_wp2_with fail
         go_roundw
         case rel => exact ⟨i + 1, sa, (nextS m y sb), by go_num, by omega, H8⟩
         case measure => simp [intOf]; omega
   · have c1 : decide ((i : Int) < (bs.length : Int)) = false := decide_eq_false (by omega)
     have c2 : decide (i < bs.length) = false := decide_eq_false hlt2
     go_wp2_with fail
     go_ret
     exact ⟨rfl, HF.out.bw⟩
end Go.Proofs.YtdhmpakhdhdebaaGreatDoor
