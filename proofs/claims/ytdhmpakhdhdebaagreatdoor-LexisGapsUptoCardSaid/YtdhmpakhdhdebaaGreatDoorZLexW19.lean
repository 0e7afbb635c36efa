/-
  lexis.Tokens: its iterator: a contract. By an AI agent.
-/
import Derived.Test.YtdhmpakhdhdebaaGreatDoorZLexW18
import Derived.Test.YtdhmpakhdhdebaaGreatDoorZRangeM
import Derived.RangeFuncNested
import Derived.RangeFuncBound
import Derived.RangeFuncCalls
import Derived.RangeFuncLeaves
import Derived.RangeFuncWrites
import Derived.Shelf.Abstract
import Derived.Shelf.RegionOpen
import Derived.OwnWalkIn
import Derived.TacticsInMore
import Derived.LoopNIn
import Derived.LoopIn
import Derived.Test.YtdhmpakhdhdebaaGreatDoorZTerm1
import Derived.Test.YtdhmpakhdhdebaaGreatDoorZBar0
import Derived.Shelf.Unicode.DecodeSlow
import Derived.Lib.RuneCountTail
import Derived.Lib.IndexEntry
import Derived.Lib.IndexAny
import Derived.Laws.Runes
import Derived.Test.YtdhmpakhdhdebaaGreatDoorZChars
import Derived.Test.YtdhmpakhdhdebaaGreatDoorProg
import Derived.Lib.AsciiSet
import Derived.Laws.ResultCell
import Derived.Deep.MidRow
import Derived.LoopTactic
import Derived.Shelf.Spec.DecodeRune
import Derived.Test.YtdhmpakhdhdebaaGreatDoorZGTag1
import Derived.Test.YtdhmpakhdhdebaaGreatDoorZLabel
import Derived.Deep.CutRange
import Derived.IntWalk
import Derived.Test.YtdhmpakhdhdebaaGreatDoorZRdW0
import Derived.Lib.Bytealg
namespace Go.Proofs.YtdhmpakhdhdebaaGreatDoor
open Go.RowKit Go.Shelf
set_option maxRecDepth 1000000
attribute [local go_sem] Oper.semAt_some
def encT (x : TokL × Value) : Array Value := #[tokV x.1.kind (B x.1.text) (B x.1.loc) (B x.1.typ) x.1.at_ x.1.fin, x.2]
def okT (ts : List TokL) : List (TokL × Value) := ts.map fun t => (t, Value.nilIface)
def Given (r : List TokL × Option (Nat × Int)) (xs : List (TokL × Value)) (W : World) : Prop :=
 (∃ pre rest, r.1 = pre ++ rest /\ xs = okT pre) \/ (∃ ev q, r.2 = some q /\ xs = okT r.1 ++ [(noTok, ev)] /\ ErrIs W ev (.inr q))
def AllGiven (r : List TokL × Option (Nat × Int)) (xs : List (TokL × Value)) : Prop :=
 (r.2 = none /\ xs = okT r.1) \/ (∃ ev q, ev ≠ .nilIface /\ r.2 = some q /\ xs = okT r.1 ++ [(noTok, ev)])
def SomeGiven (r : List TokL × Option (Nat × Int)) (xs : List (TokL × Value)) : Prop :=
 (∃ pre rest, r.1 = pre ++ rest /\ xs = okT pre) \/ (∃ ev q, r.2 = some q /\ xs = okT r.1 ++ [(noTok, ev)])
def KpT (n₀ c : Nat) (V V' : World) : Prop := Below n₀ V V' /\ V'.heap[c]? = V.heap[c]?
theorem rowAt_block {w w' : World} {g : Nat} {vs : List Value} (h : RowAt w g vs) (he : w'.heap[g]? = w.heap[g]?) : RowAt w' g vs := fun j hj => by
 have := h j hj
 simp only [World.cell?, World.frozen?] at this ⊢
 rw [he]
 exact this
theorem okT_snoc (pre : List TokL) (t : TokL) : okT (pre ++ [t]) = okT pre ++ [(t, Value.nilIface)] := by simp [okT]
set_option maxHeartbeats 4000000 in
theorem tokens_in (n : Nat) (hn : 1 <= n) (ly Bn n₀ : Nat) (s : List UInt8) (J Jx : Nat -> List (TokL × Value) -> World -> Prop) (W : World) (hJ : PrivFrom W.heap.size J) (hn₀ : n₀ <= W.heap.size) (l : List UInt8) (less : Bool) (hhead : headL s = l) (hless : lessB s = less) (r : List TokL × Option (Nat × Int)) (hr : toksF l less 0 = r)
   (hY : ∀ c pre x V, W.heap.size <= c -> c < V.heap.size -> J c pre V -> Given r (pre ++ [x]) V -> W.heap.size <= V.heap.size -> pre.length < r.1.length + 1 -> YieldAt Fence.wide (n - 1) Tryz.prog ly (encT x) V fun e V' =>
     (e = .returned (.bool true) /\ J c (pre ++ [x]) V' /\ KpT n₀ c V V') \/ (e = .returned (.bool false) /\ Jx c (pre ++ [x]) V' /\ KpT n₀ c V V'))
   (hB : W.heap[Bn]? = some (.cells #[.string (B s)] 9 (0, 0))) (hl : s.length <= 4194304)
   (hv : ∀ W', Below n₀ W W' -> TabAt W' /\ MaxAt W') (h0 : ∀ c V, Below W.heap.size W V -> W.heap.size <= c -> c < V.heap.size -> J c [] V) :
   CallsIn Fence.wide n Tryz.prog 60 #[.func (.yield ly) #[] #[], .pointer (some ⟨Bn, 0, none⟩)] W fun e W' => (∃ v, e = .returned v) /\
     ((∃ c xs, AllGiven r xs /\ J c xs W') \/ (∃ c pre, SomeGiven r pre /\ Jx c pre W')) := by
 have hlen : l.length <= 4194304 := by
   rw [<- hhead]; unfold headL
   split
   · exact hl
   · simp; omega
 have NEW := Lib.hid (lexNew_l s W hl)
 rw [hhead, hless] at NEW
 have HV := Lib.hid hv
 have cB : W.cell? ⟨Bn, 0, none⟩ = some (.string (B s)) := by simp [World.cell?, hB]
 clear hv hB hhead hless
 refine callsIn_of_wp Tryz.func60 rfl trivial ?_ rfl
 simp only [Tryz.ntmps60, List.size_toArray, List.length_cons, List.length_nil, Nat.reduceAdd, Nat.reduceSub, Array.replicate_succ, Array.replicate_zero, List.push_toArray, List.append_toArray, List.nil_append, List.cons_append]
 gi_wp2_with (refine ⟨trivial, ?_⟩; gi_at_call 23; refine (callsIn_wide.2 NEW.out).mono ?_; rintro e w1 ⟨b, rfl, hb0, hx, hb⟩; have HX := Lib.hid hx; have HB := Lib.hid hb; clear hx hb)
 have HJ0 := h0 b w1 HB.out hb0 HX.out.lt
 have HN0 : Hid (Below n₀ W w1) := Lib.hid (HB.out.mono hn₀)
 clear h0 NEW cB
 gi_loopw [8] (fun _ wr => ∃ (i : Nat) (pre : List TokL), i <= l.length /\ Hid (r = (pre ++ (toksF l less i).1, (toksF l less i).2)) /\ Hid (J b (okT pre) wr) /\ Hid (LexAt wr b l (badV l less) i .nilIface) /\ Hid (Below n₀ W wr) /\ W.heap.size <= wr.heap.size) (fun _ wr => l.length + 1 - (intOf ((wr.cell? ⟨b, 2, none⟩).getD undef)).toNat)
 case atStart => exact ⟨0, [], Nat.zero_le _, Lib.hid (by rw [hr]; rfl), Lib.hid HJ0, HX, HN0, HB.out.size⟩
 case round =>
   obtain ⟨i, pre, hi, HR, HJ, HX, HN, hsz⟩ := hrel
   obtain ⟨x0, x1, x2, x3, f0, f1, f2, f3⟩ := RowAt.four HX.out
   have hms : (intOf ((wr.cell? ⟨b, 2, none⟩).getD undef)).toNat = i := by rw [x2]; simp [intOf]
   have HM := Lib.hid hms
   have hTM : ∀ u, wr.grownBy u (some b) -> TabAt u /\ MaxAt u := fun u hu => HV.out u (HN.out.grown hu (Nat.le_trans hn₀ hsz) (fun k e => by cases e; omega))
   have NX := Lib.hid (lexNext_l l less i b wr HX.out hi hlen hTM)
   clear hms x0 x1 x2 x3 f0 f1 f2 f3 hTM
   gi_wp2_with fail
   refine ⟨trivial, ?_⟩
   refine (callsIn_wide.2 NX.out).mono ?_
   clear NX
   rintro e w2 (⟨t, hst, rfl, hx, hg⟩ | ⟨q, j, hst, v, v2, rfl, hx, he1, he2, hg⟩)
   · unfold tokV
     by_cases hk : t.kind = 0
     · have hk0 : (t.kind == 0) = true := beq_iff_eq.2 hk
       have HE : Hid (AllGiven r (okT pre)) := Lib.hid (.inl ⟨by rw [HR.out, toksF_end hst hk], by rw [HR.out, toksF_end hst hk]; simp⟩)
       obtain ⟨W3, hW3⟩ : ∃ W3, w2.alloc (.cells #[.int .i64 0, .string ⟨#[]⟩, .string ⟨#[]⟩, .string ⟨#[]⟩, .int .i64 0, .int .i64 0] 50) = W3 := ⟨_, rfl⟩
       have HT3 : Hid (RowAt W3 w2.heap.size TokZ) := Lib.hid (by rw [<- hW3]; exact one_new w2)
       have HB3 : Hid (Below w2.heap.size w2 W3) := Lib.hid (by rw [<- hW3]; exact (Below.refl _ _).alloc (Nat.le_refl _) _)
       have hbw : b < w2.heap.size := hx.lt
       obtain ⟨⟨a0, a1, a2, a3, a4, a5⟩, p0, p1, p2, p3, p4, p5⟩ := row6 HT3.out
       have hlt := HT3.out.inside
       have HG3 : ∀ k x y z a e, w2.grownBy (six W3 w2.heap.size k x y z a e) none := fun k x y z a e => six_grown (below_grown HB3.out none) (Nat.le_refl _) k x y z a e
       have HJ2 : Hid (J b (okT pre) w2) := Lib.hid (hJ b _ wr w2 (some b) HJ.out hg (fun r e => by cases e; exact ⟨hb0, .inl rfl⟩))
       have HJ3 : ∀ k x y z a e, J b (okT pre) (six W3 w2.heap.size k x y z a e) := fun k x y z a e => hJ b _ w2 _ none HJ2.out (HG3 k x y z a e) (by simp)
       have HG3h := Lib.hid HG3
       have HJ3h := Lib.hid HJ3
       have HX3 : Hid (∀ k x y z a e, LexAt (six W3 w2.heap.size k x y z a e) b l (badV l less) t.fin.toNat .nilIface) := Lib.hid (fun k x y z a e => six_lex (hx.below HB3.out) (Nat.ne_of_lt hbw) k x y z a e)
       have HN2 : Hid (Below n₀ W w2) := Lib.hid (HN.out.grown hg (Nat.le_trans hn₀ hsz) (fun k e => by cases e; omega))
       have hsz2 : W.heap.size <= w2.heap.size := Nat.le_trans hsz hg.size
       clear HG3 HJ3 hx hg
       clear HR hk hst
       gi_wp2_with fail
       refine ⟨(fun f h => by cases h), ?_⟩
       gi_wp2_with fail
       refine bodyPost_ret (results_none rfl _ _ _) rfl ?_
       exact ⟨⟨_, rfl⟩, .inl ⟨b, _, HE.out, HJ3h.out _ _ _ _ _ _⟩⟩
     · have hk0 : (t.kind == 0) = false := beq_eq_false_iff_ne.2 hk
       obtain ⟨hgo, h1, h2, h3⟩ := toksF_go (less := less) hi hst hk
       have HR2 : Hid (r = ((pre ++ [t]) ++ (toksF l less t.fin.toNat).1, (toksF l less t.fin.toNat).2)) := Lib.hid (by rw [HR.out, hgo]; simp)
       have HGV : Hid (∀ V, Given r (okT (pre ++ [t])) V) := Lib.hid (fun V => .inl ⟨pre ++ [t], _, by rw [HR2.out], rfl⟩)
       have HSG : Hid (SomeGiven r (okT (pre ++ [t]))) := Lib.hid (.inl ⟨pre ++ [t], _, by rw [HR2.out], rfl⟩)
       have HPL : Hid ((okT pre).length < r.1.length + 1) := Lib.hid (by rw [HR.out]; simp [okT]; omega)
       rw [okT_snoc] at HGV HSG
       obtain ⟨W3, hW3⟩ : ∃ W3, w2.alloc (.cells #[.int .i64 0, .string ⟨#[]⟩, .string ⟨#[]⟩, .string ⟨#[]⟩, .int .i64 0, .int .i64 0] 50) = W3 := ⟨_, rfl⟩
       have HT3 : Hid (RowAt W3 w2.heap.size TokZ) := Lib.hid (by rw [<- hW3]; exact one_new w2)
       have HB3 : Hid (Below w2.heap.size w2 W3) := Lib.hid (by rw [<- hW3]; exact (Below.refl _ _).alloc (Nat.le_refl _) _)
       have hbw : b < w2.heap.size := hx.lt
       obtain ⟨⟨a0, a1, a2, a3, a4, a5⟩, p0, p1, p2, p3, p4, p5⟩ := row6 HT3.out
       have hlt := HT3.out.inside
       have HG3 : ∀ k x y z a e, w2.grownBy (six W3 w2.heap.size k x y z a e) none := fun k x y z a e => six_grown (below_grown HB3.out none) (Nat.le_refl _) k x y z a e
       have HJ2 : Hid (J b (okT pre) w2) := Lib.hid (hJ b _ wr w2 (some b) HJ.out hg (fun r e => by cases e; exact ⟨hb0, .inl rfl⟩))
       have HJ3 : ∀ k x y z a e, J b (okT pre) (six W3 w2.heap.size k x y z a e) := fun k x y z a e => hJ b _ w2 _ none HJ2.out (HG3 k x y z a e) (by simp)
       have HG3h := Lib.hid HG3
       have HJ3h := Lib.hid HJ3
       have HX3 : Hid (∀ k x y z a e, LexAt (six W3 w2.heap.size k x y z a e) b l (badV l less) t.fin.toNat .nilIface) := Lib.hid (fun k x y z a e => six_lex (hx.below HB3.out) (Nat.ne_of_lt hbw) k x y z a e)
       have HN2 : Hid (Below n₀ W w2) := Lib.hid (HN.out.grown hg (Nat.le_trans hn₀ hsz) (fun k e => by cases e; omega))
       have hsz2 : W.heap.size <= w2.heap.size := Nat.le_trans hsz hg.size
       clear HG3 HJ3 hx hg
       clear HR hk hst hgo
       have HYY := hY b (okT pre) (t, .nilIface) (six W3 w2.heap.size t.kind (B t.text) (B t.loc) (B t.typ) t.at_ t.fin) hb0 (HX3.out _ _ _ _ _ _).lt (HJ3h.out _ _ _ _ _ _) (HGV.out _) (Nat.le_trans hsz2 (HG3h.out _ _ _ _ _ _).size) HPL.out
       dsimp only [encT] at HYY
       obtain ⟨fn, tmps, assign, body, hy, hR⟩ := HYY
       unfold tokV six at hy
       gi_wp2_with fail
       refine hR.mono ?_
       clear hy hR
       rintro e W4 (⟨rfl, hJ4, hk4⟩ | ⟨rfl, hJx4, hk4⟩)
       · rw [<- okT_snoc] at hJ4
         have HJ4 := Lib.hid hJ4
         have HX4 := Lib.hid (rowAt_block (HX3.out t.kind (B t.text) (B t.loc) (B t.typ) t.at_ t.fin) hk4.2)
         have HN4 := Lib.hid ((HN2.out.grown (HG3h.out t.kind (B t.text) (B t.loc) (B t.typ) t.at_ t.fin) (Nat.le_trans hn₀ hsz2) (by simp)).trans hk4.1)
         have hsz4 : W.heap.size <= W4.heap.size := Nat.le_trans (Nat.le_trans hsz2 (HG3h.out t.kind (B t.text) (B t.loc) (B t.typ) t.at_ t.fin).size) hk4.1.size
         clear hk4 hJ4
         gi_wp2_with fail
         go_roundw
         case rel => exact ⟨t.fin.toNat, pre ++ [t], h2, HR2, HJ4, HX4, HN4, hsz4⟩
         case measure => rw [HM.out, (RowAt.four HX4.out).2.2.1]; simp [intOf]; omega
       · gi_wp2_with fail
         refine bodyPost_ret (results_none rfl _ _ _) rfl ?_
         exact ⟨⟨_, rfl⟩, .inr ⟨b, _, HSG.out, hJx4⟩⟩
   · obtain ⟨p, N⟩ := q
     obtain ⟨B9, rfl, e1, e2⟩ := he1
     have HE1 : Hid (ErrIs w2 (.iface 91 (.pointer (some ⟨B9, 0, none⟩))) (.inr (p, N))) := Lib.hid ⟨B9, rfl, e1, e2⟩
     have hr2 := toksF_bad (less := less) hst
     have HR2 : Hid (r.1 = pre /\ r.2 = some (p, N)) := Lib.hid (by rw [HR.out, hr2]; simp)
     have HPL : Hid ((okT pre).length < r.1.length + 1) := Lib.hid (by rw [HR2.out.1]; simp [okT])
     have HSG : Hid (SomeGiven r (okT pre ++ [(noTok, .iface 91 (.pointer (some ⟨B9, 0, none⟩)))])) := Lib.hid (.inr ⟨_, (p, N), HR2.out.2, by rw [HR2.out.1]⟩)
     have HAG : Hid (AllGiven r (okT pre ++ [(noTok, .iface 91 (.pointer (some ⟨B9, 0, none⟩)))])) := Lib.hid (.inr ⟨.iface 91 (.pointer (some ⟨B9, 0, none⟩)), (p, N), (fun h => by cases h), HR2.out.2, by rw [HR2.out.1]⟩)
     clear e1 e2 he2 hr2 hst HR
     unfold tokV
     obtain ⟨W3, hW3⟩ : ∃ W3, w2.alloc (.cells #[.int .i64 0, .string ⟨#[]⟩, .string ⟨#[]⟩, .string ⟨#[]⟩, .int .i64 0, .int .i64 0] 50) = W3 := ⟨_, rfl⟩
     have HT3 : Hid (RowAt W3 w2.heap.size TokZ) := Lib.hid (by rw [<- hW3]; exact one_new w2)
     have HB3 : Hid (Below w2.heap.size w2 W3) := Lib.hid (by rw [<- hW3]; exact (Below.refl _ _).alloc (Nat.le_refl _) _)
     have hbw : b < w2.heap.size := hx.lt
     obtain ⟨⟨a0, a1, a2, a3, a4, a5⟩, p0, p1, p2, p3, p4, p5⟩ := row6 HT3.out
     have hlt := HT3.out.inside
     have HG3 : ∀ k x y z a e, w2.grownBy (six W3 w2.heap.size k x y z a e) none := fun k x y z a e => six_grown (below_grown HB3.out none) (Nat.le_refl _) k x y z a e
     have HJ2 : Hid (J b (okT pre) w2) := Lib.hid (hJ b _ wr w2 (some b) HJ.out hg (fun r e => by cases e; exact ⟨hb0, .inl rfl⟩))
     have HJ3 : ∀ k x y z a e, J b (okT pre) (six W3 w2.heap.size k x y z a e) := fun k x y z a e => hJ b _ w2 _ none HJ2.out (HG3 k x y z a e) (by simp)
     have HG3h := Lib.hid HG3
     have HJ3h := Lib.hid HJ3
     have HX3 : Hid (∀ k x y z a e, LexAt (six W3 w2.heap.size k x y z a e) b l (badV l less) j v2) := Lib.hid (fun k x y z a e => six_lex (hx.below HB3.out) (Nat.ne_of_lt hbw) k x y z a e)
     have HN2 : Hid (Below n₀ W w2) := Lib.hid (HN.out.grown hg (Nat.le_trans hn₀ hsz) (fun k e => by cases e; omega))
     have hsz2 : W.heap.size <= w2.heap.size := Nat.le_trans hsz hg.size
     clear HG3 HJ3 hx hg
     have HGV : Hid (Given r (okT pre ++ [(noTok, .iface 91 (.pointer (some ⟨B9, 0, none⟩)))]) (six W3 w2.heap.size 0 ⟨#[]⟩ ⟨#[]⟩ ⟨#[]⟩ 0 0)) := Lib.hid (.inr ⟨_, (p, N), HR2.out.2, by rw [HR2.out.1], six_err (HE1.out.below HB3.out) HT3.out rfl ⟨_, rfl⟩ _ _ _ _ _ _⟩)
     have HYY := hY b (okT pre) (noTok, .iface 91 (.pointer (some ⟨B9, 0, none⟩))) (six W3 w2.heap.size 0 ⟨#[]⟩ ⟨#[]⟩ ⟨#[]⟩ 0 0) hb0 (HX3.out _ _ _ _ _ _).lt (HJ3h.out _ _ _ _ _ _) HGV.out (Nat.le_trans hsz2 (HG3h.out _ _ _ _ _ _).size) HPL.out
     dsimp only [encT, noTok] at HYY
     rw [show B [] = (⟨#[]⟩ : ByteArray) from rfl] at HYY
     obtain ⟨fn, tmps, assign, body, hy, hR⟩ := HYY
     unfold tokV six at hy
     gi_wp2_with fail
     refine hR.mono ?_
     clear hy hR
     rintro e W4 (⟨rfl, hJ4, hk4⟩ | ⟨rfl, hJx4, hk4⟩)
     · gi_wp2_with fail
       refine bodyPost_ret (results_none rfl _ _ _) rfl ?_
       exact ⟨⟨_, rfl⟩, .inl ⟨b, _, HAG.out, hJ4⟩⟩
     · gi_wp2_with fail
       refine bodyPost_ret (results_none rfl _ _ _) rfl ?_
       exact ⟨⟨_, rfl⟩, .inr ⟨b, _, HSG.out, hJx4⟩⟩
theorem tokens_seq (n : Nat) (hn : 1 <= n) (Bn n₀ : Nat) (s : List UInt8) (w : World) (hn₀ : n₀ <= w.heap.size) (hB : w.heap[Bn]? = some (.cells #[.string (B s)] 9 (0, 0))) (hl : s.length <= 4194304) (hv : ∀ W', Below n₀ w W' -> TabAt W' /\ MaxAt W') :
   SeqP Fence.wide n Tryz.prog 60 #[.pointer (some ⟨Bn, 0, none⟩)] encT (KpT n₀) (Given (toksF (headL s) (lessB s) 0)) (AllGiven (toksF (headL s) (lessB s) 0)) (SomeGiven (toksF (headL s) (lessB s) 0)) ((toksF (headL s) (lessB s) 0).1.length + 1) w := fun ly J Jx W hW hJ _ hY h0 =>
 tokens_in n hn ly Bn n₀ s J Jx W hJ (Nat.le_trans hn₀ hW.size) (headL s) (lessB s) rfl rfl _ rfl hY ((hW.block Bn (Array.getElem?_eq_some_iff.1 hB).1).trans hB) hl (fun W' h => hv W' ((hW.mono hn₀).trans h)) h0
end Go.Proofs.YtdhmpakhdhdebaaGreatDoor
