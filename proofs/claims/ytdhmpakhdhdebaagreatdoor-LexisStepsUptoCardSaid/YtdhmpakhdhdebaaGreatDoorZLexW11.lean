/-
  lexis.Lexer.iri: a contract. By an AI agent.
-/
import Derived.Test.YtdhmpakhdhdebaaGreatDoorZLexW9
namespace Go.Proofs.YtdhmpakhdhdebaaGreatDoor
open Go.RowKit
set_option maxRecDepth 100000
theorem ix_some : ∀ (l : List UInt8) (c : UInt8), c ∈ l -> 0 <= Lib.indexByte l c
 | [], _, h => by cases h
 | b :: l, c, h => by
   rw [Lib.indexByte]
   by_cases hb : b = c
   · rw [if_pos (by rw [hb, beq_self_eq_true])]; exact Int.le_refl _
   · have ih := ix_some l c ((List.mem_cons.1 h).resolve_left (fun e => hb e.symm))
     rw [if_neg (by rw [beq_eq_false_iff_ne.2 hb]; simp), if_neg (by rw [beq_eq_false_iff_ne.2 (by omega)]; simp)]
     omega
theorem alloc_one {w w3 : World} {o : Obj} (hb : Below (w.alloc o).heap.size (w.alloc o) w3) : Below w.heap.size w w3 := ((Below.refl _ w).alloc (Nat.le_refl _) o).trans (hb.mono (by simp))
theorem drew_one {W u : World} (hb : Below W.drew.heap.size W.drew u) : Below W.heap.size W u := (below_drewN W 1).trans hb
theorem alloc_drew {W u : World} {o : Obj} (hb : Below (W.alloc o).drew.heap.size (W.alloc o).drew u) : Below W.heap.size W u := alloc_one (drew_one hb)
theorem boxP_drew {W u : World} {x y : Value} {T : TypeId} (hb : Below (W.alloc (.cells #[x, y] T)).drew.heap.size (W.alloc (.cells #[x, y] T)).drew u) : u.cell? ⟨W.heap.size, 0, none⟩ = some x /\ u.cell? ⟨W.heap.size, 1, none⟩ = some y /\ W.heap.size < u.heap.size := by
 have h := boxP_at (w := W) (x := x) (y := y) (T := T)
 have hz : W.heap.size < (W.alloc (.cells #[x, y] T)).heap.size := by simp
 have hd := drew_one hb
 exact ⟨(hd.cell (p := ⟨W.heap.size, 0, none⟩) hz).trans h.1, (hd.cell (p := ⟨W.heap.size, 1, none⟩) hz).trans h.2, Nat.lt_of_lt_of_le hz hd.size⟩
theorem free_drew {W u : World} {x y : Value} {T : TypeId} (hb : Below (W.alloc (.cells #[x, y] T)).drew.heap.size (W.alloc (.cells #[x, y] T)).drew u) : u.frozen? ⟨W.heap.size, 0, none⟩ = false /\ u.frozen? ⟨W.heap.size, 1, none⟩ = false := by
 have h := rowAt_of_heap (heap_alloc_new W (.cells [x, y].toArray T))
 have hz : W.heap.size < (W.alloc (.cells #[x, y] T)).heap.size := by simp
 have hd := drew_one hb
 exact ⟨(hd.frozen (p := ⟨W.heap.size, 0, none⟩) hz).trans (h.free (j := 0) (by simp)), (hd.frozen (p := ⟨W.heap.size, 1, none⟩) hz).trans (h.free (j := 1) (by simp))⟩
theorem TkAt.other {W : World} {g g8 : Nat} (h : TkAt W g) (h1 : g ≠ g8) (h2 : g + 1 ≠ g8) (o : Nat) (v : Value) : TkAt (W.setCell ⟨g8, o, none⟩ v) g := by
 have c : ∀ k x, W.cell? ⟨g, k, none⟩ = some x -> (W.setCell ⟨g8, o, none⟩ v).cell? ⟨g, k, none⟩ = some x := fun k x e => by rw [World.cell?_setCell_other _ _ _ _ (fun e => h1 (congrArg Addr.block e).symm)]; exact e
 have d : ∀ k x, W.cell? ⟨g + 1, k, none⟩ = some x -> (W.setCell ⟨g8, o, none⟩ v).cell? ⟨g + 1, k, none⟩ = some x := fun k x e => by rw [World.cell?_setCell_other _ _ _ _ (fun e => h2 (congrArg Addr.block e).symm)]; exact e
 have f : ∀ a, (W.setCell ⟨g8, o, none⟩ v).frozen? a = W.frozen? a := fun a => World.frozen?_setCell ..
 exact ⟨c _ _ h.a0, c _ _ h.a1, c _ _ h.a2, c _ _ h.a3, c _ _ h.a4, c _ _ h.a5, (f _).trans h.f0, (f _).trans h.f1, (f _).trans h.f2, (f _).trans h.f3, (f _).trans h.f4, (f _).trans h.f5, d _ _ h.d0, d _ _ h.d1, (f _).trans h.e0, (f _).trans h.e1, by simpa using h.lt⟩
theorem two_in {W : World} {g : Nat} {a b x y : Value} (h : W.cell? ⟨g, 0, none⟩ = some a /\ W.cell? ⟨g, 1, none⟩ = some b /\ g < W.heap.size) : ((W.setCell ⟨g, 0, none⟩ x).setCell ⟨g, 1, none⟩ y).cell? ⟨g, 0, none⟩ = some x /\ ((W.setCell ⟨g, 0, none⟩ x).setCell ⟨g, 1, none⟩ y).cell? ⟨g, 1, none⟩ = some y := by
 refine ⟨?_, ?_⟩
 · rw [World.cell?_setCell_other _ _ _ _ (by simp)]
   exact World.cell?_setCell_same _ _ _ h.1
 · exact World.cell?_setCell_same _ _ _ (by rw [World.cell?_setCell_other _ _ _ _ (by simp)]; exact h.2.1)
theorem no_has (c : UInt8) : decide (0 <= Lib.indexByte noI c) = noI.contains c := by
 cases h : noI.contains c with
 | true => exact decide_eq_true (ix_some _ _ (List.contains_iff_mem.1 h))
 | false => rw [ix_none _ c (fun b hb e => by rw [List.contains_iff_mem.2 (e ▸ hb)] at h; cases h)]; rfl
set_option maxHeartbeats 32000000 in
theorem lexIri_l (l : List UInt8) (bad : Int) (i : Nat) (ev : Value) (b : Nat) (w : World) (h : LexAt w b l bad i ev) (hi : i < l.length) (hl : l.length <= 4194304) :
   Calls Tryz.prog 66 #[.pointer (some ⟨b, 0, none⟩)] w fun e w' => TokRet e i (iriG l i) /\ Below w.heap.size w w' := by
 have WF : IntKind.i64.wrap ((i : Int) + 1) = (i : Int) + 1 := IntWalk.i64_in _ (by omega)
 have m0 : (0 : Int) <= (i : Int) + 1 := by omega
 have m1 : (i : Int) + 1 <= (l.length : Int) := by omega
 obtain ⟨r, hr⟩ : ∃ r, List.drop (i + 1) l = r := ⟨_, rfl⟩
 have hrl : r.length = l.length - (i + 1) := by rw [<- hr]; simp
 have htk : List.take (l.length - (i + 1)) r = r := List.take_of_length_le (by omega)
 have HL := Lib.hid hrl
 have IB := Lib.hid (fun (c : UInt8) (u : World) => Tryz.strings_IndexByte { data := #[60, 34, 123, 125, 124, 94, 96] } (c.toNat : Int) u)
 have SA := Lib.hid (fun (s : List UInt8) (u : World) (hs : s.length <= 4194304) => lexSaid_l (some ⟨b, 0, none⟩) (i + 1) s 2 u (by omega) (by omega))
 clear hrl
 obtain ⟨W, hW⟩ : ∃ W, (w.alloc (.cells #[.int .i64 0, .string ⟨#[]⟩, .string ⟨#[]⟩, .string ⟨#[]⟩, .int .i64 0, .int .i64 0] 50)).alloc (.cells #[.int .i64 0, .int .i64 0] 111) = W := ⟨_, rfl⟩
 have HB0 : Hid (Below w.heap.size w W) := Lib.hid (by rw [<- hW]; exact ((Below.refl _ _).alloc (Nat.le_refl _) _).alloc (by simp) _)
 have HK : Hid (TkAt W w.heap.size) := Lib.hid (by rw [<- hW]; exact tkAt_of (tk_new w).1 (tk_new w).2)
 have HX := Lib.hid (h.below HB0.out)
 have hn0 : ¬ b = w.heap.size := by have := h.lt; omega
 have hn1 : ¬ b = w.heap.size + 1 := by have := h.lt; omega
 have k0 : (0 : Int) <= (i : Int) := by omega
 have k1 : (i : Int) <= (l.length : Int) := by omega
 obtain ⟨x0, x1, x2, x3, f0, f1, f2, f3⟩ := RowAt.four HX.out
 have hbl := HX.out.lt
 obtain ⟨a0, a1, a2, a3, a4, a5, p0, p1, p2, p3, p4, p5, d0, d1, e0, e1, hlt⟩ := HK.out
 have hlt0 := Nat.lt_of_succ_lt hlt
 go_enter Tryz.func66, Tryz.ntmps66
 go_wp2_with fail
 go_quiet (fail)
 go_wp2_with fail
 go_loopw [21] (fun z wr => ∃ k : Nat, z = .int .i64 (k : Int) /\ k <= r.length /\ Hid (scanI l (i + 1 + k) = scanI l (i + 1)) /\ Hid (LexAt wr b l bad i ev) /\ Hid (TkAt wr w.heap.size) /\ Hid (Below w.heap.size w wr)) (fun z _ => r.length - (intOf z).toNat)
 case atStart => exact ⟨0, rfl, Nat.zero_le _, Lib.hid rfl, Lib.hid (HX.out.drewN _), Lib.hid (HK.out.drewN _), Lib.hid (below_drewN_h HB0.out _)⟩
 case round =>
   obtain ⟨k, rfl, hk, HE, HX2, HK2, HB2⟩ := hrel
   clear HX HK HB0 htk x0 x1 x2 x3 f0 f1 f2 f3 hbl a0 a1 a2 a3 a4 a5 p0 p1 p2 p3 p4 p5 d0 d1 e0 e1 hlt hlt0
   obtain ⟨W0, hW0⟩ : ∃ W0 : World, W0 = wr := ⟨_, rfl⟩
   subst hW0
   have HX := HX2
   have HK := HK2
   have HB0 := HB2
   clear HX2 HK2 HB2
   obtain ⟨x0, x1, x2, x3, f0, f1, f2, f3⟩ := RowAt.four HX.out
   have hbl := HX.out.lt
   obtain ⟨a0, a1, a2, a3, a4, a5, p0, p1, p2, p3, p4, p5, d0, d1, e0, e1, hlt⟩ := HK.out
   have hlt0 := Nat.lt_of_succ_lt hlt
   have hbW := HX.out.lt
   have hlW := HK.out.lt
   have kk0 : (0 : Int) <= (k : Int) := by omega
   have WK : IntKind.i64.wrap ((k : Int) + 1) = (k : Int) + 1 := IntWalk.i64_in _ (by have := HL.out; omega)
   have HE2 : Hid (scanI l (i + 1) = scanI l (i + 1 + k)) := Lib.hid HE.out.symm
   clear HE
   by_cases hkl : k < r.length
   · have c1 : decide ((k : Int) < (r.length : Int)) = true := decide_eq_true (by omega)
     have c2 : decide (k < r.length) = true := decide_eq_true hkl
     have c3 : (k : Int) < (r.length : Int) := by omega
     have hik : i + 1 + k < l.length := by have := HL.out; omega
     have hg : l.getD (i + 1 + k) 0 = r[k] := by simp [<- hr, List.getD, hik]
     have HG := Lib.hid hg
     clear hg
     by_cases h62 : r[k] = 62
     · have y62 : ((r[k].toNat : Int) == 62) = true := by rw [h62]; rfl
       have HS : Hid (scanI l (i + 1) = .inl (i + 1 + k)) := Lib.hid (by rw [HE2.out, scanI_hit hik (by rw [HG.out]; exact h62)])
       obtain ⟨s, hs⟩ : ∃ s, List.take k r = s := ⟨_, rfl⟩
       have hsl : s.length <= 4194304 := by rw [<- hs]; have := HL.out; simp; omega
       have HC : Hid (cutF l (i + 1) (i + 1 + k) = s) := Lib.hid (by unfold cutF; rw [hr, Nat.add_sub_cancel_left]; exact hs)
       have SD := Lib.hid (fun (u : World) => SA.out s u hsl)
       have e1 : ((i + 1 : Nat) : Int) = (i : Int) + 1 := by omega
       rw [e1] at SD
       have W2 : IntKind.i64.wrap ((k : Int) + 2) = (k : Int) + 2 := IntWalk.i64_in _ (by have := HL.out; omega)
       have kr : (k : Int) <= (r.length : Int) := by omega
       obtain ⟨y, hy⟩ : ∃ y, unescF 2 s 0 = y := ⟨_, rfl⟩
       rw [hy] at SD
       clear HE2 h62 HG SA IB
       rcases y with t | ⟨p, n⟩
       · have HI : Hid (iriG l i = .inl ⟨1, t, [], [], (i : Nat), (i + 1 + k + 1 : Nat)⟩) := Lib.hid (by unfold iriG; rw [HS.out]; simp only; rw [HC.out, hy])
         have SD2 : Hid (∀ u, Calls Tryz.prog 97 #[.pointer (some ⟨b, 0, none⟩), .int .i64 ((i : Int) + 1), .string (B s), .int .i64 2] u fun e w' => e = .returned (.tuple #[.string (B t), .agg #[.int .i64 0, .int .i64 0]]) /\ Below u.heap.size u w') := SD
         clear SD HS HC hy
         have SD := SD2
         clear SD2
         go_wp2_with fail
         go_region_with (go_at_call 97; (with_reducible refine (SD.out _).mono ?_); rintro e w3 ⟨rfl, hb⟩; have hb0 : Below W0.heap.size W0 w3 := (by first | exact drew_one hb | exact alloc_one hb | exact alloc_drew hb | exact hb); (first | (have q8 := boxP_drew hb; have q9 := free_drew hb) | (have q8 := trivial; have q9 := trivial)); replace HX := Lib.hid (HX.out.below hb0); replace HK := Lib.hid (HK.out.below hb0); replace HB0 := Lib.hid (HB0.out.trans (hb0.mono HB0.out.size)); have hsz := hb0.size; clear x0 x1 x2 x3 f0 f1 f2 f3 hbl a0 a1 a2 a3 a4 a5 p0 p1 p2 p3 p4 p5 d0 d1 e0 e1 hlt hlt0 hb hb0; obtain ⟨x0, x1, x2, x3, f0, f1, f2, f3⟩ := RowAt.four HX.out; have hbl := HX.out.lt; obtain ⟨a0, a1, a2, a3, a4, a5, p0, p1, p2, p3, p4, p5, d0, d1, e0, e1, hlt⟩ := HK.out; have hlt0 := Nat.lt_of_succ_lt hlt)
         all_goals (go_upto_region 8 with fail)
         all_goals (first | (obtain ⟨V, hV⟩ : ∃ V, w3.alloc (.cells #[(.int .i64 0), (.int .i64 0)] 111) = V := ⟨_, rfl⟩; rw [hV]; have hbv : Below w3.heap.size w3 V := (by rw [<- hV]; exact (Below.refl _ _).alloc (Nat.le_refl _) _); have t8 := boxP_at (w := w3) (x := (.int .i64 0)) (y := (.int .i64 0)) (T := 111); rw [hV] at t8; obtain ⟨t0, t1⟩ := t8; have h81 : ¬ w3.heap.size = w.heap.size := (by omega); have h82 : ¬ w3.heap.size = w.heap.size + 1 := (by omega); replace HX := Lib.hid (HX.out.below hbv); replace HK := Lib.hid (HK.out.below hbv); replace HB0 := Lib.hid (HB0.out.trans (hbv.mono HB0.out.size)); clear hV hbv q8 q9; clear x0 x1 x2 x3 f0 f1 f2 f3 hbl a0 a1 a2 a3 a4 a5 p0 p1 p2 p3 p4 p5 d0 d1 e0 e1 hlt hlt0; obtain ⟨x0, x1, x2, x3, f0, f1, f2, f3⟩ := RowAt.four HX.out; have hbl := HX.out.lt; obtain ⟨a0, a1, a2, a3, a4, a5, p0, p1, p2, p3, p4, p5, d0, d1, e0, e1, hlt⟩ := HK.out; have hlt0 := Nat.lt_of_succ_lt hlt) | (obtain ⟨V, hV⟩ : ∃ V, (w3.setCell ⟨W0.heap.size, 0, none⟩ (.int .i64 0)).setCell ⟨W0.heap.size, 1, none⟩ (.int .i64 0) = V := ⟨_, rfl⟩; rw [hV]; have t8 := two_in (x := (.int .i64 0)) (y := (.int .i64 0)) q8; rw [hV] at t8; obtain ⟨t0, t1⟩ := t8; have h81 : ¬ W0.heap.size = w.heap.size := (by omega); have h82 : ¬ W0.heap.size = w.heap.size + 1 := (by omega); replace HX : Hid (LexAt V b l bad i ev) := Lib.hid (by rw [<- hV]; exact RowAt.other (g' := W0.heap.size) (RowAt.other (g' := W0.heap.size) HX.out (by omega) _) (by omega) _); replace HK : Hid (TkAt V w.heap.size) := Lib.hid (by rw [<- hV]; exact TkAt.other (g8 := W0.heap.size) (TkAt.other (g8 := W0.heap.size) HK.out (by omega) (by omega) _ _) (by omega) (by omega) _ _); replace HB0 : Hid (Below w.heap.size w V) := Lib.hid (by rw [<- hV]; exact (HB0.out.setCell (p := ⟨W0.heap.size, 0, none⟩) (by simp only; omega) _).setCell (p := ⟨W0.heap.size, 1, none⟩) (by simp only; omega) _); clear hV q8 q9; clear x0 x1 x2 x3 f0 f1 f2 f3 hbl a0 a1 a2 a3 a4 a5 p0 p1 p2 p3 p4 p5 d0 d1 e0 e1 hlt hlt0; obtain ⟨x0, x1, x2, x3, f0, f1, f2, f3⟩ := RowAt.four HX.out; have hbl := HX.out.lt; obtain ⟨a0, a1, a2, a3, a4, a5, p0, p1, p2, p3, p4, p5, d0, d1, e0, e1, hlt⟩ := HK.out; have hlt0 := Nat.lt_of_succ_lt hlt))
         all_goals (go_wp2_with fail)
         all_goals (go_region)
         all_goals (go_wp2_with fail)
         all_goals exact tok_done_d (V := V) rfl HK.out HB0.out rfl rfl (by rw [HI.out]; exact tokRet_of (t := ⟨1, t, [], [], (i : Nat), (i + 1 + k + 1 : Nat)⟩) rfl rfl rfl (by simp only; omega))
       · have HI : Hid (iriG l i = .inr (i + 1 + p, n)) := Lib.hid (by unfold iriG; rw [HS.out]; simp only; rw [HC.out, hy])
         have SD2 : Hid (∀ u, Calls Tryz.prog 97 #[.pointer (some ⟨b, 0, none⟩), .int .i64 ((i : Int) + 1), .string (B s), .int .i64 2] u fun e w' => e = .returned (.tuple #[.string ⟨#[]⟩, .agg #[.int .i64 ((i : Int) + 1 + (p : Int)), .int .i64 n]]) /\ Below u.heap.size u w') := Lib.hid (fun u => by have h := SD.out u; simp only [saidV, e1] at h; exact h)
         clear SD HS HC hy
         have SD := SD2
         clear SD2
         go_wp2_with fail
         go_region_with (go_at_call 97; (with_reducible refine (SD.out _).mono ?_); rintro e w3 ⟨rfl, hb⟩; have hb0 : Below W0.heap.size W0 w3 := (by first | exact drew_one hb | exact alloc_one hb | exact alloc_drew hb | exact hb); (first | (have q8 := boxP_drew hb; have q9 := free_drew hb) | (have q8 := trivial; have q9 := trivial)); replace HX := Lib.hid (HX.out.below hb0); replace HK := Lib.hid (HK.out.below hb0); replace HB0 := Lib.hid (HB0.out.trans (hb0.mono HB0.out.size)); have hsz := hb0.size; clear x0 x1 x2 x3 f0 f1 f2 f3 hbl a0 a1 a2 a3 a4 a5 p0 p1 p2 p3 p4 p5 d0 d1 e0 e1 hlt hlt0 hb hb0; obtain ⟨x0, x1, x2, x3, f0, f1, f2, f3⟩ := RowAt.four HX.out; have hbl := HX.out.lt; obtain ⟨a0, a1, a2, a3, a4, a5, p0, p1, p2, p3, p4, p5, d0, d1, e0, e1, hlt⟩ := HK.out; have hlt0 := Nat.lt_of_succ_lt hlt)
         all_goals (go_upto_region 8 with fail)
         all_goals (first | (obtain ⟨V, hV⟩ : ∃ V, w3.alloc (.cells #[(.int .i64 ((i : Int) + 1 + (p : Int))), (.int .i64 n)] 111) = V := ⟨_, rfl⟩; rw [hV]; have hbv : Below w3.heap.size w3 V := (by rw [<- hV]; exact (Below.refl _ _).alloc (Nat.le_refl _) _); have t8 := boxP_at (w := w3) (x := (.int .i64 ((i : Int) + 1 + (p : Int)))) (y := (.int .i64 n)) (T := 111); rw [hV] at t8; obtain ⟨t0, t1⟩ := t8; have h81 : ¬ w3.heap.size = w.heap.size := (by omega); have h82 : ¬ w3.heap.size = w.heap.size + 1 := (by omega); replace HX := Lib.hid (HX.out.below hbv); replace HK := Lib.hid (HK.out.below hbv); replace HB0 := Lib.hid (HB0.out.trans (hbv.mono HB0.out.size)); clear hV hbv q8 q9; clear x0 x1 x2 x3 f0 f1 f2 f3 hbl a0 a1 a2 a3 a4 a5 p0 p1 p2 p3 p4 p5 d0 d1 e0 e1 hlt hlt0; obtain ⟨x0, x1, x2, x3, f0, f1, f2, f3⟩ := RowAt.four HX.out; have hbl := HX.out.lt; obtain ⟨a0, a1, a2, a3, a4, a5, p0, p1, p2, p3, p4, p5, d0, d1, e0, e1, hlt⟩ := HK.out; have hlt0 := Nat.lt_of_succ_lt hlt) | (obtain ⟨V, hV⟩ : ∃ V, (w3.setCell ⟨W0.heap.size, 0, none⟩ (.int .i64 ((i : Int) + 1 + (p : Int)))).setCell ⟨W0.heap.size, 1, none⟩ (.int .i64 n) = V := ⟨_, rfl⟩; rw [hV]; have t8 := two_in (x := (.int .i64 ((i : Int) + 1 + (p : Int)))) (y := (.int .i64 n)) q8; rw [hV] at t8; obtain ⟨t0, t1⟩ := t8; have h81 : ¬ W0.heap.size = w.heap.size := (by omega); have h82 : ¬ W0.heap.size = w.heap.size + 1 := (by omega); replace HX : Hid (LexAt V b l bad i ev) := Lib.hid (by rw [<- hV]; exact RowAt.other (g' := W0.heap.size) (RowAt.other (g' := W0.heap.size) HX.out (by omega) _) (by omega) _); replace HK : Hid (TkAt V w.heap.size) := Lib.hid (by rw [<- hV]; exact TkAt.other (g8 := W0.heap.size) (TkAt.other (g8 := W0.heap.size) HK.out (by omega) (by omega) _ _) (by omega) (by omega) _ _); replace HB0 : Hid (Below w.heap.size w V) := Lib.hid (by rw [<- hV]; exact (HB0.out.setCell (p := ⟨W0.heap.size, 0, none⟩) (by simp only; omega) _).setCell (p := ⟨W0.heap.size, 1, none⟩) (by simp only; omega) _); clear hV q8 q9; clear x0 x1 x2 x3 f0 f1 f2 f3 hbl a0 a1 a2 a3 a4 a5 p0 p1 p2 p3 p4 p5 d0 d1 e0 e1 hlt hlt0; obtain ⟨x0, x1, x2, x3, f0, f1, f2, f3⟩ := RowAt.four HX.out; have hbl := HX.out.lt; obtain ⟨a0, a1, a2, a3, a4, a5, p0, p1, p2, p3, p4, p5, d0, d1, e0, e1, hlt⟩ := HK.out; have hlt0 := Nat.lt_of_succ_lt hlt))
         all_goals (go_wp2_with fail)
         all_goals (go_region)
         all_goals (go_wp2_with fail)
         all_goals exact tok_done_d (V := V) rfl HK.out HB0.out rfl rfl (by rw [HI.out]; exact ⟨_, _, _, _, _, _, by rw [show (((i + 1 + p : Nat) : Nat) : Int) = (i : Int) + 1 + (p : Int) by omega]⟩)
     · have y62 : ((r[k].toNat : Int) == 62) = false := byte_ne (d := 62) h62
       have WX : IntKind.i64.wrap ((i : Int) + 1 + (k : Int)) = (i : Int) + 1 + (k : Int) := IntWalk.i64_in _ (by omega)
       have I1 := Lib.hid (fun (u : World) => show Calls Tryz.prog 72 #[.string { data := #[60, 34, 123, 125, 124, 94, 96] }, .int .u8 (r[k].toNat : Int)] u (fun e w' => e = .returned (.int .i64 (Lib.indexByte noI r[k])) /\ w' = u) from by
         have h := IB.out r[k] u
         rw [show ((r[k].toNat : Int).toNat.toUInt8) = r[k] from by simp] at h
         exact h)
       obtain ⟨z, hz⟩ : ∃ z, Lib.indexByte noI r[k] = z := ⟨_, rfl⟩
       have hq := no_has r[k]
       rw [hz] at I1 hq
       cases hb : badI r[k] with
       | true =>
         have HI : Hid (iriG l i = .inr (i + 1 + k, 100)) := Lib.hid (by unfold iriG; rw [HE2.out, scanI_bad hik (by rw [HG.out]; exact h62) (by rw [HG.out]; exact hb)])
         have hp : (((i + 1 + k : Nat) : Nat) : Int) = (i : Int) + 1 + (k : Int) := by omega
         have HP := Lib.hid hp
         clear hp
         by_cases h32 : r[k].toNat <= 32
         · have y32 : decide ((r[k].toNat : Int) <= 32) = true := decide_eq_true (by omega)
           clear HE2 HG h62 hb hq hz IB SA
           go_wp2_with fail
           go_region
           all_goals (go_wp2_with fail)
           all_goals exact tok_done_d (V := W0) rfl HK.out HB0.out rfl rfl (by rw [HI.out]; exact ⟨_, _, _, _, _, _, by rw [HP.out]⟩)
         · have y32 : decide ((r[k].toNat : Int) <= 32) = false := decide_eq_false (by omega)
           have yz : decide (0 <= z) = true := by rw [hq]; unfold badI at hb; rw [decide_eq_false h32, Bool.false_or] at hb; exact hb
           clear HE2 HG h62 hb hq hz IB SA
           go_wp2_with (go_at_call 72; (with_reducible refine (I1.out _).mono ?_); rintro e w2 ⟨rfl, hw⟩; rw [hw]; clear hw)
           go_region
           all_goals (go_wp2_with fail)
           all_goals exact tok_done_d (V := W0) rfl HK.out HB0.out rfl rfl (by rw [HI.out]; exact ⟨_, _, _, _, _, _, by rw [HP.out]⟩)
       | false =>
         have HN : Hid (scanI l (i + 1 + (k + 1)) = scanI l (i + 1)) := Lib.hid (by rw [HE2.out, scanI_go hik (by rw [HG.out]; exact h62) (by rw [HG.out]; exact hb)]; rfl)
         have hb2 : r[k].toNat <= 32 -> False := fun h => by unfold badI at hb; rw [decide_eq_true h] at hb; cases hb
         have y32 : decide ((r[k].toNat : Int) <= 32) = false := decide_eq_false (fun h => hb2 (by omega))
         have yz : decide (0 <= z) = false := by rw [hq]; unfold badI at hb; exact (Bool.or_eq_false_iff.1 hb).2
         clear HE2 HG h62 hb hb2 hq hz IB SA
         go_wp2_with (go_at_call 72; (with_reducible refine (I1.out _).mono ?_); rintro e w2 ⟨rfl, hw⟩; rw [hw]; clear hw)
         go_roundw
         case rel => exact ⟨k + 1, by go_num, by omega, HN, HX, HK, HB0⟩
         case measure => simp [intOf]; omega
   · have c1 : decide ((k : Int) < (r.length : Int)) = false := decide_eq_false (by omega)
     have c2 : decide (k < r.length) = false := decide_eq_false hkl
     have HI : Hid (iriG l i = .inr (l.length, 100)) := Lib.hid (by unfold iriG; rw [HE2.out, scanI_end (by have := HL.out; omega)])
     clear HE2 IB SA
     go_wp2_with fail
     go_region
     all_goals (go_wp2_with fail)
     all_goals exact tok_done_d (V := W0) rfl HK.out HB0.out rfl rfl (by rw [HI.out]; exact ⟨_, _, _, _, _, _, rfl⟩)
end Go.Proofs.YtdhmpakhdhdebaaGreatDoor
