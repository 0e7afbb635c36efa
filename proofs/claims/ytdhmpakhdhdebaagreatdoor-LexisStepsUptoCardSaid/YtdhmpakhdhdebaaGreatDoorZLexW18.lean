/-
  lexis.Lexer.Next, lexis.New: contracts. By an AI agent.
-/
import Derived.Test.YtdhmpakhdhdebaaGreatDoorZLexW17
namespace Go.Proofs.YtdhmpakhdhdebaaGreatDoor
open Go.RowKit
set_option maxRecDepth 100000
def badV (l : List UInt8) (less : Bool) : Int := if less = true then (l.length : Int) else -1
def failQ (l : List UInt8) (less : Bool) (p : Nat) (N : Int) : Nat × Int := if less = true /\ p = l.length then (l.length, 40) else (p, N)
theorem lexFail_l (l : List UInt8) (less : Bool) (i : Nat) (ev : Value) (b : Nat) (p : Nat) (N : Int) (hp : p <= l.length) (u : World) (h : LexAt u b l (badV l less) i ev) :
   Calls Tryz.prog 44 #[.pointer (some ⟨b, 0, none⟩), .agg #[.int .i64 (p : Int), .int .i64 N]] u (FailPost u b l (badV l less) i (failQ l less p N)) := by
 obtain ⟨d2, h2⟩ : ∃ d2, decide (badV l less <= (p : Int)) = d2 := ⟨_, rfl⟩
 have e1 : decide ((0 : Int) <= badV l less) = less := by
   unfold badV
   cases less with
   | true => rw [if_pos rfl]; exact decide_eq_true (by omega)
   | false => rw [if_neg (by simp)]; exact decide_eq_false (by omega)
 have := lexFail_c l (badV l less) i ev b u p (failQ l less p N).1 N (failQ l less p N).2 h less d2 e1 h2 (Lib.hid (by
   unfold badV at h2 ⊢
   unfold failQ
   cases less with
   | false => rw [if_neg (by simp), if_neg (by simp)]; exact ⟨rfl, rfl⟩
   | true =>
     rw [if_pos rfl] at h2 ⊢
     by_cases hpl : p = l.length
     · have hd2 : d2 = true := by rw [<- h2]; exact decide_eq_true (by omega)
       have e : (if true = true /\ p = l.length then (l.length, (40 : Int)) else (p, N)) = (l.length, 40) := if_pos ⟨rfl, hpl⟩
       rw [e, if_pos ⟨rfl, hd2⟩]
       exact ⟨rfl, rfl⟩
     · have hd2 : ¬ d2 = true := fun x => by rw [<- h2] at x; have := of_decide_eq_true x; omega
       have e : (if true = true /\ p = l.length then (l.length, (40 : Int)) else (p, N)) = (p, N) := if_neg (fun x => hpl x.2)
       rw [e, if_neg (fun x => hd2 x.2)]
       exact ⟨rfl, rfl⟩))
 exact this
def NextPost (w : World) (b : Nat) (l : List UInt8) (less : Bool) (i : Nat) (e : Ending) (w' : World) : Prop :=
 (∃ t, stepG l less i = .inl t /\ TokPost w b l (badV l less) t e w') \/ (∃ q j, stepG l less i = .inr q /\ FailPost w b l (badV l less) j q e w')
theorem lexNext_l (l : List UInt8) (less : Bool) (i b : Nat) (w : World) (h : LexAt w b l (badV l less) i .nilIface) (hi : i <= l.length) (hl : l.length <= 4194304) (hTM : ∀ u, w.grownBy u (some b) -> TabAt u /\ MaxAt u) :
   Calls Tryz.prog 25 #[.pointer (some ⟨b, 0, none⟩)] w (NextPost w b l less i) := by
 have hg := gap_le hi
 obtain ⟨g, hgap⟩ : ∃ g, gapF l i = g := ⟨_, rfl⟩
 rw [hgap] at hg
 by_cases hge : g = l.length
 · have hn : nextG l i = .inl ⟨0, [], [], [], (g : Nat), (g : Nat)⟩ := by unfold nextG; rw [hgap, if_pos hge]
   cases less with
   | false =>
     have hs : stepG l false i = .inl ⟨0, [], [], [], (g : Nat), (g : Nat)⟩ := by unfold stepG; rw [hn]; simp
     exact (lexNext_end l _ i g b w h hi hl hgap hge (by unfold badV; rw [if_neg (by simp)]; decide)).mono fun _ _ hp => .inl ⟨_, hs, hp⟩
   | true =>
     have hs : stepG l true i = .inr (l.length, 40) := by unfold stepG; rw [hn]; simp
     exact (lexNext_bad l _ i g b w h hi hl hgap hge (by unfold badV; rw [if_pos rfl]; exact decide_eq_true (by omega)) l.length (by unfold badV; rw [if_pos rfl])).mono fun _ _ hp => .inr ⟨_, g, hs, hp⟩
 · have hlt : g < l.length := by omega
   have hat := tok_at hlt
   obtain ⟨x, hx⟩ : ∃ x, tokG l g = x := ⟨_, rfl⟩
   rw [hx] at hat
   have hfq : ∀ (p : Nat) (N : Int), nextG l i = .inr (p, N) -> stepG l less i = .inr (failQ l less p N) := fun p N hn => by
     unfold stepG failQ
     rw [hn]
     show (if less = true /\ p = l.length then (.inr (l.length, 40) : TokR) else .inr (p, N)) = .inr (if less = true /\ p = l.length then (l.length, 40) else (p, N))
     by_cases hc : less = true /\ p = l.length
     · rw [if_pos hc, if_pos hc]
     · rw [if_neg hc, if_neg hc]
   rcases x with t | ⟨p, N⟩
   · obtain ⟨K, X, Y, Z, A, E⟩ := t
     obtain ⟨hA, ⟨e, hE, h1, h2⟩, hk, _⟩ := hat
     simp only at hA hE hk
     subst hA hE
     have hnx : nextG l i = if 65536 < X.length \/ 65536 < Y.length then .inr (g, 2) else .inl ⟨K, X, Y, Z, (g : Nat), (e : Nat)⟩ := by unfold nextG; rw [hgap, if_neg hge, hx]
     by_cases hlong : 65536 < X.length \/ 65536 < Y.length
     · rw [if_pos hlong] at hnx
       exact (lexNext_long l _ i g b w h hi hl hgap hTM hlt K X Y Z (e - g) e (by omega) h2 hx hlong _ (fun u hu => lexFail_l l less g .nilIface b g 2 hg.2 u hu)).mono fun _ _ hp => .inr ⟨_, g, hfq g 2 hnx, hp⟩
     · rw [if_neg hlong] at hnx
       have hs : stepG l less i = .inl ⟨K, X, Y, Z, (g : Nat), (e : Nat)⟩ := by unfold stepG; rw [hnx]; simp only; rw [if_neg (fun x => by have := x.2; omega)]
       exact (lexNext_tok l _ i g b w h hi hl hgap hTM hlt K X Y Z (e - g) e (by omega) h2 hx (by omega) (by omega)).mono fun _ _ hp => .inl ⟨_, hs, hp⟩
   · have hnx : nextG l i = .inr (p, N) := by unfold nextG; rw [hgap, if_neg hge, hx]
     exact (lexNext_err l _ i g b w h hi hl hgap hTM hlt p N hat.2.2 hx _ (fun u hu => lexFail_l l less g .nilIface b p N hat.2.1 u hu)).mono fun _ _ hp => .inr ⟨_, g, hfq p N hnx, hp⟩
def headL (l : List UInt8) : List UInt8 := if utfF l 0 = -1 then l else l.take (utfF l 0).toNat
def lessB (l : List UInt8) : Bool := !decide (utfF l 0 = -1)
theorem bad_is (l : List UInt8) : badV (headL l) (lessB l) = utfF l 0 := by
 unfold badV headL lessB
 by_cases h : utfF l 0 = -1
 · rw [if_pos h, h]; simp
 · have := utfF_ge l l.length 0 (by omega)
   rw [if_neg h, decide_eq_false h, if_pos (show (!false) = true from rfl), List.length_take]
   omega
set_option maxHeartbeats 1600000 in
theorem lexNew_l (l : List UInt8) (w : World) (hl : l.length <= 4194304) :
   Calls Tryz.prog 23 #[.string (B l)] w fun e w' => ∃ b, e = .returned (.pointer (some ⟨b, 0, none⟩)) /\ w.heap.size <= b /\ LexAt w' b (headL l) (badV (headL l) (lessB l)) 0 .nilIface /\ Below w.heap.size w w' := by
 have UC := Lib.hid (fun u => utfCheck_l l u (by omega))
 have y1 : decide ((67108864 : Int) < (l.length : Int)) = false := decide_eq_false (by omega)
 have HBD := Lib.hid (bad_is l)
 have hut := utfF_ge l l.length 0 (by omega)
 have HLX : Hid (LexAt (w.alloc (.cells #[.string (B l), .int .i64 (utfF l 0), .int .i64 0, .nilIface] 105)) w.heap.size l (utfF l 0) 0 .nilIface) := Lib.hid (rowAt_of_heap (heap_alloc_new w _))
 have HB : Hid (Below w.heap.size w (w.alloc (.cells #[.string (B l), .int .i64 (utfF l 0), .int .i64 0, .nilIface] 105))) := Lib.hid ((Below.refl _ _).alloc (Nat.le_refl _) _)
 obtain ⟨W, hW⟩ : ∃ W, w.alloc (.cells #[.string (B l), .int .i64 (utfF l 0), .int .i64 0, .nilIface] 105) = W := ⟨_, rfl⟩
 rw [hW] at HLX HB
 obtain ⟨x0, x1, x2, x3, f0, f1, f2, f3⟩ := RowAt.four HLX.out
 have hbl := HLX.out.lt
 have HE : Hid (headL l = if utfF l 0 = -1 then l else l.take (utfF l 0).toNat) := Lib.hid rfl
 generalize utfF l 0 = z at *
 go_enter Tryz.func23, Tryz.ntmps23
 by_cases hz : z = -1
 · have e1 : decide ((0 : Int) <= z) = false := decide_eq_false (by omega)
   have hh : headL l = l := by rw [HE.out, if_pos hz]
   clear hz hut
   go_wp2_with (go_at_call 20; (with_reducible refine (UC.out _).mono ?_); rintro e w1 ⟨rfl, rfl⟩)
   go_ret
   exact ⟨_, rfl, Nat.le_refl _, by rw [HBD.out, hh]; exact HLX.out, HB.out⟩
 · have e1 : decide ((0 : Int) <= z) = true := decide_eq_true (by omega)
   obtain ⟨n, rfl⟩ : ∃ n : Nat, z = (n : Int) := ⟨z.toNat, by omega⟩
   have k1 : (n : Int) <= (l.length : Int) := by omega
   have k0 : (0 : Int) <= (n : Int) := by omega
   have hh : headL l = l.take n := by rw [HE.out, if_neg hz]; rfl
   clear hz hut
   go_wp2_with (go_at_call 20; (with_reducible refine (UC.out _).mono ?_); rintro e w1 ⟨rfl, rfl⟩)
   go_ret
   have HS := RowAt.set HLX.out (j := 0) (by simp) (.string (B (List.take n l)))
   exact ⟨_, rfl, Nat.le_refl _, by rw [HBD.out, hh]; exact HS, HB.out.setCell (Nat.le_refl _) _⟩
end Go.Proofs.YtdhmpakhdhdebaaGreatDoor
