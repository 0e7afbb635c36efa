/-
  lexis.Tokens: its iterator: a contract. By an AI agent.
-/
import Derived.Test.YtdhmpakhdhdebaaGreatDoorZRangeM
import Derived.RangeFuncBound
import Derived.Shelf.RegionOpen
import Derived.OwnWalkIn
import Derived.LoopNIn
import Derived.LoopIn
import Derived.Test.YtdhmpakhdhdebaaGreatDoorZAs
namespace Go.Proofs.YtdhmpakhdhdebaaGreatDoor
open Go.Lib (hid)
open Go.RowKit Go.Shelf
set_option maxRecDepth 1000000
attribute [local go_sem] Oper.semAt_some
def encT (x : TokL × Value) : Array Value := #[tokV x.1.kind (B x.1.text) (B x.1.loc) (B x.1.typ) x.1.at_ x.1.fin, x.2]
def okT (ts : List TokL) : List (TokL × Value) := ts.map fun t => (t, Value.nilIface)
def Given (r : List TokL × Option (Nat × Int)) (xs : List (TokL × Value)) (W : World) : Prop :=
 (∃ pre rest, r.1 = pre ++ rest /\ xs = okT pre) \/ (∃ ev q, r.2 = some q /\ xs = okT r.1 ++ [(noTok, ev)] /\ ErrIs W ev (.inr q))
def AllGiven (r : List TokL × Option (Nat × Int)) (xs : List (TokL × Value)) : Prop :=
 (r.2 = none /\ xs = okT r.1) \/ (∃ ev q, ev ≠ .nilIface /\ r.2 = some q /\ xs = okT r.1 ++ [(noTok, ev)])
def SomeGiven (r : List TokL × Option (Nat × Int)) (xs : List (TokL × Value)) : Prop :=
 (∃ pre rest, r.1 = pre ++ rest /\ xs = okT pre) \/ (∃ ev q, r.2 = some q /\ xs = okT r.1 ++ [(noTok, ev)])
def KpT (n₀ c : Nat) (V V' : World) : Prop := Below n₀ V V' /\ V'.heap[c]? = V.heap[c]?
theorem rowAt_block {w w' : World} {g : Nat} {vs : List Value} (h : RowAt w g vs) (he : w'.heap[g]? = w.heap[g]?) : RowAt w' g vs := fun j hj => by
 have := h j hj
 simp only [World.cell?, World.frozen?] at this ⊢
 rw [he]
 exact this
theorem okT_snoc (pre : List TokL) (t : TokL) : okT (pre ++ [t]) = okT pre ++ [(t, Value.nilIface)] := by simp [okT]
set_option maxHeartbeats 4000000 in
theorem tokens_in (n : Nat) (hn : 1 <= n) (ly Bn n₀ : Nat) (s : List UInt8) (J Jx : Nat -> List (TokL × Value) -> World -> Prop) (W : World) (hJ : PrivFrom W.heap.size J) (hn₀ : n₀ <= W.heap.size) (l : List UInt8) (less : Bool) (hhead : headL s = l) (hless : lessB s = less) (r : List TokL × Option (Nat × Int)) (hr : toksF l less 0 = r)
  (hY : ∀ c pre x V, W.heap.size <= c -> c < V.heap.size -> J c pre V -> Given r (pre ++ [x]) V -> W.heap.size <= V.heap.size -> pre.length < r.1.length + 1 -> YieldAt Fence.wide (n - 1) Tryz.prog ly (encT x) V fun e V' =>
   (e = .returned (.bool true) /\ J c (pre ++ [x]) V' /\ KpT n₀ c V V') \/ (e = .returned (.bool false) /\ Jx c (pre ++ [x]) V' /\ KpT n₀ c V V'))
  (hB : W.heap[Bn]? = some (.cells #[.string (B s)] 9 (0, 0))) (hl : s.length <= 4194304)
  (hv : ∀ W', Below n₀ W W' -> TabAt W' /\ MaxAt W') (h0 : ∀ c V, Below W.heap.size W V -> W.heap.size <= c -> c < V.heap.size -> J c [] V) :
  CallsIn Fence.wide n Tryz.prog 60 #[.func (.yield ly) #[] #[], .pointer (some ⟨Bn, 0, none⟩)] W fun e W' => (∃ v, e = .returned v) /\
   ((∃ c xs, AllGiven r xs /\ J c xs W') \/ (∃ c pre, SomeGiven r pre /\ Jx c pre W')) := by
 have hlen : l.length <= 4194304 := by
  rw [<- hhead]; unfold headL
  split
  ·exact hl
  ·simp; omega
 have NEW := hid (lexNew_l s W hl)
 rw [hhead, hless] at NEW
 have HV := hid hv
 have cB : W.cell? ⟨Bn, 0, none⟩ = some (.string (B s)) := by simp [World.cell?, hB]
 clear hv hB hhead hless
 refine callsIn_of_wp Tryz.func60 rfl trivial ?_ rfl
 simp only [Tryz.ntmps60, List.size_toArray, List.length_cons, List.length_nil, Nat.reduceAdd, Nat.reduceSub, Array.replicate_succ, Array.replicate_zero, List.push_toArray, List.append_toArray, List.nil_append, List.cons_append]
 gi_wp2_with (refine ⟨trivial, ?_⟩; gi_at_call 23; refine (callsIn_wide.2 NEW.out).mono ?_; rintro e w1 ⟨b, rfl, hb0, hx, hb⟩; have HX := hid hx; have HB := hid hb; clear hx hb)
 have HJ0 := h0 b w1 HB.out hb0 HX.out.lt
 have HN0 : Hid (Below n₀ W w1) := hid (HB.out.mono hn₀)
 clear h0 NEW cB
 gi_loopw [8] (fun _ wr => ∃ (i : Nat) (pre : List TokL), i <= l.length /\ Hid (r = (pre ++ (toksF l less i).1, (toksF l less i).2)) /\ Hid (J b (okT pre) wr) /\ Hid (LexAt wr b l (badV l less) i .nilIface) /\ Hid (Below n₀ W wr) /\ W.heap.size <= wr.heap.size) (fun _ wr => l.length + 1 - (intOf ((wr.cell? ⟨b, 2, none⟩).getD undef)).toNat)
 case atStart => exact ⟨0, [], Nat.zero_le _, hid (by rw [hr]; rfl), hid HJ0, HX, HN0, HB.out.size⟩
 case round =>
  obtain ⟨i, pre, hi, HR, HJ, HX, HN, hsz⟩ := hrel
  obtain ⟨x0, x1, x2, x3, f0, f1, f2, f3⟩ := RowAt.four HX.out
  have hms : (intOf ((wr.cell? ⟨b, 2, none⟩).getD undef)).toNat = i := by rw [x2]; simp [intOf]
  have HM := hid hms
  have hTM : ∀ u, wr.grownBy u (some b) -> TabAt u /\ MaxAt u := fun u hu => HV.out u (HN.out.grown hu (Nat.le_trans hn₀ hsz) (fun k e => by cases e; omega))
  have NX := hid (lexNext_l l less i b wr HX.out hi hlen hTM)
  clear hms x0 x1 x2 x3 f0 f1 f2 f3 hTM
  gi_wp2_with fail
  refine ⟨trivial, ?_⟩
  refine (callsIn_wide.2 NX.out).mono ?_
  clear NX
  rintro e w2 (⟨t, hst, rfl, hx, hg⟩ | ⟨q, j, hst, v, v2, rfl, hx, he1, he2, hg⟩)
  ·unfold tokV
   by_cases hk : t.kind = 0
   ·have hk0 : (t.kind == 0) = true := beq_iff_eq.2 hk
    have HE : Hid (AllGiven r (okT pre)) := hid (.inl ⟨by rw [HR.out, toksF_end hst hk], by rw [HR.out, toksF_end hst hk]; simp⟩)
    obtain ⟨W3, hW3⟩ : ∃ W3, w2.alloc (.cells #[.int .i64 0, .string ⟨#[]⟩, .string ⟨#[]⟩, .string ⟨#[]⟩, .int .i64 0, .int .i64 0] 50) = W3 := ⟨_, rfl⟩
    have HT3 : Hid (RowAt W3 w2.heap.size TokZ) := hid (by rw [<- hW3]; exact one_new w2)
    have HB3 : Hid (Below w2.heap.size w2 W3) := hid (by rw [<- hW3]; exact (Below.refl _ _).alloc (Nat.le_refl _) _)
    have hbw : b < w2.heap.size := hx.lt
    obtain ⟨⟨a0, a1, a2, a3, a4, a5⟩, p0, p1, p2, p3, p4, p5⟩ := row6 HT3.out
    have hlt := HT3.out.inside
    have HG3 : ∀ k x y z a e, w2.grownBy (six W3 w2.heap.size k x y z a e) none := fun k x y z a e => six_grown (below_grown HB3.out none) (Nat.le_refl _) k x y z a e
    have HJ2 : Hid (J b (okT pre) w2) := hid (hJ b _ wr w2 (some b) HJ.out hg (fun r e => by cases e; exact ⟨hb0, .inl rfl⟩))
    have HJ3 : ∀ k x y z a e, J b (okT pre) (six W3 w2.heap.size k x y z a e) := fun k x y z a e => hJ b _ w2 _ none HJ2.out (HG3 k x y z a e) (by simp)
    have HG3h := hid HG3
    have HJ3h := hid HJ3
    have HX3 : Hid (∀ k x y z a e, LexAt (six W3 w2.heap.size k x y z a e) b l (badV l less) t.fin.toNat .nilIface) := hid (fun k x y z a e => six_lex (hx.below HB3.out) (Nat.ne_of_lt hbw) k x y z a e)
    have HN2 : Hid (Below n₀ W w2) := hid (HN.out.grown hg (Nat.le_trans hn₀ hsz) (fun k e => by cases e; omega))
    have hsz2 : W.heap.size <= w2.heap.size := Nat.le_trans hsz hg.size
    clear HG3 HJ3 hx hg
    clear HR hk hst
    gi_wp2_with fail
    refine ⟨(fun f h => by cases h), ?_⟩
    gi_wp2_with fail
    refine bodyPost_ret (results_none rfl _ _ _) rfl ?_
    exact ⟨⟨_, rfl⟩, .inl ⟨b, _, HE.out, HJ3h.out _ _ _ _ _ _⟩⟩
   ·have hk0 : (t.kind == 0) = false := beq_eq_false_iff_ne.2 hk
    obtain ⟨hgo, h1, h2, h3⟩ := toksF_go (less := less) hi hst hk
    have HR2 : Hid (r = ((pre ++ [t]) ++ (toksF l less t.fin.toNat).1, (toksF l less t.fin.toNat).2)) := hid (by rw [HR.out, hgo]; simp)
    have HGV : Hid (∀ V, Given r (okT (pre ++ [t])) V) := hid (fun V => .inl ⟨pre ++ [t], _, by rw [HR2.out], rfl⟩)
    have HSG : Hid (SomeGiven r (okT (pre ++ [t]))) := hid (.inl ⟨pre ++ [t], _, by rw [HR2.out], rfl⟩)
    have HPL : Hid ((okT pre).length < r.1.length + 1) := hid (by rw [HR.out]; simp [okT]; omega)
    rw [okT_snoc] at HGV HSG
    obtain ⟨W3, hW3⟩ : ∃ W3, w2.alloc (.cells #[.int .i64 0, .string ⟨#[]⟩, .string ⟨#[]⟩, .string ⟨#[]⟩, .int .i64 0, .int .i64 0] 50) = W3 := ⟨_, rfl⟩
    have HT3 : Hid (RowAt W3 w2.heap.size TokZ) := hid (by rw [<- hW3]; exact one_new w2)
    have HB3 : Hid (Below w2.heap.size w2 W3) := hid (by rw [<- hW3]; exact (Below.refl _ _).alloc (Nat.le_refl _) _)
    have hbw : b < w2.heap.size := hx.lt
    obtain ⟨⟨a0, a1, a2, a3, a4, a5⟩, p0, p1, p2, p3, p4, p5⟩ := row6 HT3.out
    have hlt := HT3.out.inside
    have HG3 : ∀ k x y z a e, w2.grownBy (six W3 w2.heap.size k x y z a e) none := fun k x y z a e => six_grown (below_grown HB3.out none) (Nat.le_refl _) k x y z a e
    have HJ2 : Hid (J b (okT pre) w2) := hid (hJ b _ wr w2 (some b) HJ.out hg (fun r e => by cases e; exact ⟨hb0, .inl rfl⟩))
    have HJ3 : ∀ k x y z a e, J b (okT pre) (six W3 w2.heap.size k x y z a e) := fun k x y z a e => hJ b _ w2 _ none HJ2.out (HG3 k x y z a e) (by simp)
    have HG3h := hid HG3
    have HJ3h := hid HJ3
    have HX3 : Hid (∀ k x y z a e, LexAt (six W3 w2.heap.size k x y z a e) b l (badV l less) t.fin.toNat .nilIface) := hid (fun k x y z a e => six_lex (hx.below HB3.out) (Nat.ne_of_lt hbw) k x y z a e)
    have HN2 : Hid (Below n₀ W w2) := hid (HN.out.grown hg (Nat.le_trans hn₀ hsz) (fun k e => by cases e; omega))
    have hsz2 : W.heap.size <= w2.heap.size := Nat.le_trans hsz hg.size
    clear HG3 HJ3 hx hg
    clear HR hk hst hgo
    have HYY := hY b (okT pre) (t, .nilIface) (six W3 w2.heap.size t.kind (B t.text) (B t.loc) (B t.typ) t.at_ t.fin) hb0 (HX3.out _ _ _ _ _ _).lt (HJ3h.out _ _ _ _ _ _) (HGV.out _) (Nat.le_trans hsz2 (HG3h.out _ _ _ _ _ _).size) HPL.out
    dsimp only [encT] at HYY
    obtain ⟨fn, tmps, assign, body, hy, hR⟩ := HYY
    unfold tokV six at hy
    gi_wp2_with fail
    refine hR.mono ?_
    clear hy hR
    rintro e W4 (⟨rfl, hJ4, hk4⟩ | ⟨rfl, hJx4, hk4⟩)
    ·rw [<- okT_snoc] at hJ4
     have HJ4 := hid hJ4
     have HX4 := hid (rowAt_block (HX3.out t.kind (B t.text) (B t.loc) (B t.typ) t.at_ t.fin) hk4.2)
     have HN4 := hid ((HN2.out.grown (HG3h.out t.kind (B t.text) (B t.loc) (B t.typ) t.at_ t.fin) (Nat.le_trans hn₀ hsz2) (by simp)).trans hk4.1)
     have hsz4 : W.heap.size <= W4.heap.size := Nat.le_trans (Nat.le_trans hsz2 (HG3h.out t.kind (B t.text) (B t.loc) (B t.typ) t.at_ t.fin).size) hk4.1.size
     clear hk4 hJ4
     gi_wp2_with fail
     go_roundw
     case rel => exact ⟨t.fin.toNat, pre ++ [t], h2, HR2, HJ4, HX4, HN4, hsz4⟩
     case measure => rw [HM.out, (RowAt.four HX4.out).2.2.1]; simp [intOf]; omega
    ·gi_wp2_with fail
     refine bodyPost_ret (results_none rfl _ _ _) rfl ?_
     exact ⟨⟨_, rfl⟩, .inr ⟨b, _, HSG.out, hJx4⟩⟩
  ·obtain ⟨p, N⟩ := q
   obtain ⟨B9, rfl, e1, e2⟩ := he1
   have HE1 : Hid (ErrIs w2 (.iface 91 (.pointer (some ⟨B9, 0, none⟩))) (.inr (p, N))) := hid ⟨B9, rfl, e1, e2⟩
   have hr2 := toksF_bad (less := less) hst
   have HR2 : Hid (r.1 = pre /\ r.2 = some (p, N)) := hid (by rw [HR.out, hr2]; simp)
   have HPL : Hid ((okT pre).length < r.1.length + 1) := hid (by rw [HR2.out.1]; simp [okT])
   have HSG : Hid (SomeGiven r (okT pre ++ [(noTok, .iface 91 (.pointer (some ⟨B9, 0, none⟩)))])) := hid (.inr ⟨_, (p, N), HR2.out.2, by rw [HR2.out.1]⟩)
   have HAG : Hid (AllGiven r (okT pre ++ [(noTok, .iface 91 (.pointer (some ⟨B9, 0, none⟩)))])) := hid (.inr ⟨.iface 91 (.pointer (some ⟨B9, 0, none⟩)), (p, N), (fun h => by cases h), HR2.out.2, by rw [HR2.out.1]⟩)
   clear e1 e2 he2 hr2 hst HR
   unfold tokV
   obtain ⟨W3, hW3⟩ : ∃ W3, w2.alloc (.cells #[.int .i64 0, .string ⟨#[]⟩, .string ⟨#[]⟩, .string ⟨#[]⟩, .int .i64 0, .int .i64 0] 50) = W3 := ⟨_, rfl⟩
   have HT3 : Hid (RowAt W3 w2.heap.size TokZ) := hid (by rw [<- hW3]; exact one_new w2)
   have HB3 : Hid (Below w2.heap.size w2 W3) := hid (by rw [<- hW3]; exact (Below.refl _ _).alloc (Nat.le_refl _) _)
   have hbw : b < w2.heap.size := hx.lt
   obtain ⟨⟨a0, a1, a2, a3, a4, a5⟩, p0, p1, p2, p3, p4, p5⟩ := row6 HT3.out
   have hlt := HT3.out.inside
   have HG3 : ∀ k x y z a e, w2.grownBy (six W3 w2.heap.size k x y z a e) none := fun k x y z a e => six_grown (below_grown HB3.out none) (Nat.le_refl _) k x y z a e
   have HJ2 : Hid (J b (okT pre) w2) := hid (hJ b _ wr w2 (some b) HJ.out hg (fun r e => by cases e; exact ⟨hb0, .inl rfl⟩))
   have HJ3 : ∀ k x y z a e, J b (okT pre) (six W3 w2.heap.size k x y z a e) := fun k x y z a e => hJ b _ w2 _ none HJ2.out (HG3 k x y z a e) (by simp)
   have HG3h := hid HG3
   have HJ3h := hid HJ3
   have HX3 : Hid (∀ k x y z a e, LexAt (six W3 w2.heap.size k x y z a e) b l (badV l less) j v2) := hid (fun k x y z a e => six_lex (hx.below HB3.out) (Nat.ne_of_lt hbw) k x y z a e)
   have HN2 : Hid (Below n₀ W w2) := hid (HN.out.grown hg (Nat.le_trans hn₀ hsz) (fun k e => by cases e; omega))
   have hsz2 : W.heap.size <= w2.heap.size := Nat.le_trans hsz hg.size
   clear HG3 HJ3 hx hg
   have HGV : Hid (Given r (okT pre ++ [(noTok, .iface 91 (.pointer (some ⟨B9, 0, none⟩)))]) (six W3 w2.heap.size 0 ⟨#[]⟩ ⟨#[]⟩ ⟨#[]⟩ 0 0)) := hid (.inr ⟨_, (p, N), HR2.out.2, by rw [HR2.out.1], six_err (HE1.out.below HB3.out) HT3.out rfl ⟨_, rfl⟩ _ _ _ _ _ _⟩)
   have HYY := hY b (okT pre) (noTok, .iface 91 (.pointer (some ⟨B9, 0, none⟩))) (six W3 w2.heap.size 0 ⟨#[]⟩ ⟨#[]⟩ ⟨#[]⟩ 0 0) hb0 (HX3.out _ _ _ _ _ _).lt (HJ3h.out _ _ _ _ _ _) HGV.out (Nat.le_trans hsz2 (HG3h.out _ _ _ _ _ _).size) HPL.out
   dsimp only [encT, noTok] at HYY
   rw [show B [] = (⟨#[]⟩ : ByteArray) from rfl] at HYY
   obtain ⟨fn, tmps, assign, body, hy, hR⟩ := HYY
   unfold tokV six at hy
   gi_wp2_with fail
   refine hR.mono ?_
   clear hy hR
   rintro e W4 (⟨rfl, hJ4, hk4⟩ | ⟨rfl, hJx4, hk4⟩)
   ·gi_wp2_with fail
    refine bodyPost_ret (results_none rfl _ _ _) rfl ?_
    exact ⟨⟨_, rfl⟩, .inl ⟨b, _, HAG.out, hJ4⟩⟩
   ·gi_wp2_with fail
    refine bodyPost_ret (results_none rfl _ _ _) rfl ?_
    exact ⟨⟨_, rfl⟩, .inr ⟨b, _, HSG.out, hJx4⟩⟩
theorem tokens_seq (n : Nat) (hn : 1 <= n) (Bn n₀ : Nat) (s : List UInt8) (w : World) (hn₀ : n₀ <= w.heap.size) (hB : w.heap[Bn]? = some (.cells #[.string (B s)] 9 (0, 0))) (hl : s.length <= 4194304) (hv : ∀ W', Below n₀ w W' -> TabAt W' /\ MaxAt W') :
  SeqP Fence.wide n Tryz.prog 60 #[.pointer (some ⟨Bn, 0, none⟩)] encT (KpT n₀) (Given (toksF (headL s) (lessB s) 0)) (AllGiven (toksF (headL s) (lessB s) 0)) (SomeGiven (toksF (headL s) (lessB s) 0)) ((toksF (headL s) (lessB s) 0).1.length + 1) w := fun ly J Jx W hW hJ _ hY h0 =>
 tokens_in n hn ly Bn n₀ s J Jx W hJ (Nat.le_trans hn₀ hW.size) (headL s) (lessB s) rfl rfl _ rfl hY ((hW.block Bn (Array.getElem?_eq_some_iff.1 hB).1).trans hB) hl (fun W' h => hv W' ((hW.mono hn₀).trans h)) h0
end Go.Proofs.YtdhmpakhdhdebaaGreatDoor
namespace Go.Proofs.YtdhmpakhdhdebaaGreatDoor
open Go.Lib (hid)
open Go.RowKit Go.Shelf
set_option maxRecDepth 1000000
attribute [local go_sem] Oper.semAt_some
def tokC (t : TokL) : List Value := [.int .i64 t.kind, .string (B t.text), .string (B t.loc), .string (B t.typ), .int .i64 t.at_, .int .i64 t.fin]
def toksC (l : List TokL) : List Value := l.flatMap tokC
theorem toksC_len (l : List TokL) : (toksC l).length = l.length * 6 := by
 unfold toksC
 induction l with
 | nil => rfl
 | cons x l ih => rw [List.flatMap_cons, List.length_append, ih]; simp [tokC]; omega
theorem toksC_snoc (l : List TokL) (t : TokL) : toksC (l ++ [t]) = toksC l ++ tokC t := by simp [toksC]
theorem infoT : (Tryz.prog.info? 50).map (fun i => (i.zero, i.size, i.bytes)) = some (some (.agg (tokC noTok).toArray), 6, 72) := by kernel_rfl
def tv (t : TokL) : Value := .agg (tokC t).toArray
def TOwn (base : Nat) (v : Value) (l : List TokL) (w : World) : Prop := w.ownsRow base 50 6 v l.length (toksC l)
theorem TOwn.nil (base : Nat) (w : World) : TOwn base (.slice none 0 0) [] w := World.ownsRow_nil _ _ _ _
theorem oneCell_tok (t : TokL) : ∀ u ∈ tokC t, u.oneCell' = true := by
 intro u hu
 simp [tokC] at hu
 rcases hu with rfl | rfl | rfl | rfl | rfl | rfl <;> rfl
theorem tok_base {w : World} {base : Nat} {v : Value} {l : List TokL} (h : TOwn base v l w) : ∀ k, v.ownBlock = some k -> base <= k /\ k < w.heap.size := by
 intro k hk
 rcases h.2 with ⟨rfl, _⟩ | ⟨g, cap, cur, rfl, h1, h2, _⟩
 ·simp [Value.ownBlock] at hk
 ·simp [Value.ownBlock] at hk
  subst hk
  exact ⟨h1, (Array.getElem?_eq_some_iff.1 h2).1⟩
theorem tok_cells {w : World} {base : Nat} {v : Value} {l : List TokL} (h : TOwn base v l w) : ∀ (j : Nat) (o : Obj), v.ownBlock = some j -> w.heap[j]? = some o -> o.isCells = true := by
 intro j o hj ho
 rcases h.2 with ⟨rfl, _⟩ | ⟨g, cap, cur, rfl, _, h3, _⟩
 ·simp [Value.ownBlock] at hj
 ·simp [Value.ownBlock] at hj
  subst hj
  rw [h3] at ho; cases ho; rfl
theorem tok_grown {w w' : World} {row : Option Nat} {base : Nat} {v : Value} {l : List TokL} (h : TOwn base v l w) (hg : w.grownBy w' row) (hne : ∀ k, v.ownBlock = some k -> some k ≠ row) : TOwn base v l w' := by
 refine World.ownsRow.kept h hg ?_
 cases hv : v.ownBlock with
 | none => exact .inl rfl
 | some k => exact .inr (hne k hv)
def TView (w : World) (v : Value) (l : List TokL) : Prop := ∃ a cap, v = .slice a l.length cap /\ l.length <= cap /\ At w a (toksC l)
theorem TOwn.view {base : Nat} {v : Value} {l : List TokL} {w : World} (h : TOwn base v l w) : TView w v l := by
 rcases h.2 with ⟨rfl, h2⟩ | ⟨g, cap, cur, rfl, _, _, hn, _⟩
 ·have : l.length = 0 := by have := toksC_len l; have := h.1; rw [h2] at this; simp at this; omega
  obtain rfl := List.eq_nil_of_length_eq_zero this
  exact ⟨none, 0, rfl, Nat.le_refl _, fun j hj => by simp [toksC] at hj⟩
 ·refine ⟨_, cap, rfl, hn, fun j hj => ⟨g, 0, rfl, ?_⟩⟩
  have := h.cells (g := g) rfl j (toksC l)[j] (List.getElem?_eq_getElem hj)
  rw [add0] at this
  rw [Nat.zero_add]
  exact this
theorem tokens_fn (n : Nat) (s : List UInt8) (w : World) : CallsIn Fence.wide n Tryz.prog 39 #[.string (B s)] w fun e w' => e = .returned (.func (.func 60) #[] #[.pointer (some ⟨w.heap.size, 0, none⟩)]) /\ w' = w.alloc (.cells #[.string (B s)] 9) := by
 refine callsIn_of_wp Tryz.func39 rfl trivial ?_ rfl
 simp only [Tryz.ntmps39, List.size_toArray, List.length_cons, List.length_nil, Nat.reduceAdd, Nat.reduceSub, Array.replicate_succ, Array.replicate_zero, List.push_toArray, List.append_toArray, List.nil_append, List.cons_append]
 gi_wp2_with fail
 go_ret
 exact ⟨rfl, rfl⟩
structure TaIn (w : World) (g2 g3 gl n1 c : Nat) (ts : List TokL) (v : Value) (W : World) : Prop where
 b2 : Boxed W g2 44 (.slice none 0 0)
 b3 : Boxed W g3 37 .nilIface
 bl : Boxed W gl 44 v
 ow : TOwn (c + 1) v ts W
 lt : n1 <= W.heap.size
 nc : n1 <= c
 bw : Below w.heap.size w W
def TaI (w : World) (g2 g3 gl n1 c : Nat) (xs : List (TokL × Value)) (W : World) : Prop := ∃ ts v, xs = okT ts /\ TaIn w g2 g3 gl n1 c ts v W
def TaX (w : World) (g2 g3 : Nat) (r : List TokL × Option (Nat × Int)) (k : Code) (_c : Nat) (_xs : List (TokL × Value)) (W : World) : Prop := k = .ret /\ ∃ q ev, r.2 = some q /\ Boxed W g2 44 (.slice none 0 0) /\ Boxed W g3 37 ev /\ ErrIs W ev (.inr q) /\ Below w.heap.size w W
theorem err_box {W : World} {g : Nat} {T : TypeId} {u ev : Value} {q : Nat × Int} (h : ErrIs W ev (.inr q)) (hb : Boxed W g T u) (v : Value) : ErrIs (W.setCell ⟨g, 0, none⟩ v) ev (.inr q) := by
 obtain ⟨p, N⟩ := q
 obtain ⟨B, rfl, e1, e2⟩ := h
 have hne : B ≠ g := fun e => by
  subst e
  simp only [World.cell?, show W.heap[B]? = _ from hb] at e2
  simp at e2
 exact ⟨B, rfl, by rw [World.cell?_setCell_other _ _ _ _ (fun e => hne (congrArg Addr.block e).symm)]; exact e1, by rw [World.cell?_setCell_other _ _ _ _ (fun e => hne (congrArg Addr.block e).symm)]; exact e2⟩
def firstRangeT : Code -> Option Code
 | .rangeFunc g ps a b => some (.rangeFunc g ps a b)
 | .loop c => firstRangeT c
 | .seq a b => match firstRangeT a with
  | some c => some c
  | none => firstRangeT b
 | .block _ c => firstRangeT c
 | .scope c => firstRangeT c
 | .cond _ a b => match firstRangeT a with
  | some c => some c
  | none => firstRangeT b
 | _ => none
def rangePartsT : Code -> Option (Code × Code)
 | .rangeFunc _ _ a b => some (a, b)
 | _ => none
noncomputable def allParts : Code × Code := (rangePartsT ((Tryz.f18.body.bind firstRangeT).getD .skip)).getD (.skip, .skip)
theorem keeps_belowT {W W' : World} (h : Below W.heap.size W W') : KeepsOthers W W' := ⟨h.size, fun k _o hk _ => (h.block k (Array.getElem?_eq_some_iff.1 hk).1).trans hk⟩
theorem boxed_belowT {W W' : World} {n B : Nat} {t : TypeId} {v : Value} (h : Boxed W B t v) (hb : Below n W W') (hB : B < n) : Boxed W' B t v := (hb.block B hB).trans h
set_option maxHeartbeats 4000000 in
theorem all_new (n : Nat) (_hn : 3 <= n) (s : List UInt8) (w : World) (g2 g3 gl gs n1 c lr : Nat) (h2 : w.heap.size <= g2) (h3 : g2 < g3) (h4 : g3 < gl) (h5 : gl < n1) (hc : n1 <= c) (r : List TokL × Option (Nat × Int)) (pre : List TokL) (t : TokL) (v : Value) (W : World) (hcW : c < W.heap.size) (P : TaIn w g2 g3 gl n1 c pre v W) (hlen : pre.length < 8388608) (g5 : Nat) (_hg5 : n1 <= g5) (_h55 : g5 ≠ c) (HT5 : RowAt W g5 (tokC t)) (_z : Value) :
  allParts.2.wpIn (Fence.wide.inRound lr) (n - 1 - 1) Tryz.prog (postM n1 (KpT w.heap.size c) (TaI w g2 g3 gl n1 c) (fun d => TaX w g2 g3 r d c) (okT pre ++ [(t, .nilIface)]) W) { tmps := #[.string (B s), undef, .pointer (some ⟨g2, 0, none⟩), .pointer (some ⟨g3, 0, none⟩), .pointer (some ⟨gl, 0, none⟩), .pointer (some ⟨g5, 0, none⟩), .nilIface, .string (B s), .func (.func 60) #[] #[.pointer (some ⟨gs, 0, none⟩)], tv t, .nilIface, undef, undef, undef, undef, undef, undef, undef, undef], defers := [] } W := by
 obtain ⟨⟨a0, a1, a2, a3, a4, a5⟩, p0, p1, p2, p3, p4, p5⟩ := row6 HT5
 have hlt := RowAt.inside HT5
 obtain ⟨i0, hi, hz0, hz1, hz2⟩ := info_parts infoT
 obtain ⟨va, vc, rfl, _, _⟩ := P.ow.view
 have c4 := P.bl.cell
 have ltW := P.lt
 have l4 := P.bl.lt
 have PP := hid P
 clear P
 have P := PP
 conv => arg 4; whnf
 gi_wp2_with (gi_at_builtin; go_loud (refine wpListIn_append_own _ rfl _ _ 44 rfl (c + 1) 50 i0 _ 6 72 Tryz.underlying44 hi hz0 hz1 hz2 rfl (by decide) _ _ _ rfl (World.ownsRow.alloc P.out.ow _) ⟨W.heap.size, 0, none⟩ 1 1 (tokC t) rfl rfl (cell_row W (tokC t) _) (oneCell_tok t) (by unfold maxLen; omega) (by omega) (by simp; omega) ?_; intro v' w6 hown6 hgrow6 _; obtain ⟨g', cap', rfl⟩ := ownsRow_succ hown6; have R6 := hid hgrow6; have O6 := hid hown6; have x6 := (P.out.bl.alloc (.cells (tokC t).toArray 50)).kept hgrow6 (P.out.bl.not_row (by decide) P.out.ow); have c6 := x6.cell; have f6 := x6.frozen; have l6 := x6.lt; have X6 := hid x6; clear hown6 hgrow6 x6))
 have OA : TOwn (c + 1) (.slice va pre.length vc) pre (W.alloc (.cells (tokC t).toArray 50)) := World.ownsRow.alloc P.out.ow _
 have KK : ∀ k, k <= c -> k ≠ gl -> (w6.setCell ⟨gl, 0, none⟩ (.slice (some ⟨g', 0, none⟩) (pre.length + 1) cap')).heap[k]? = W.heap[k]? := fun k h1 h2 => by
  have hk2 : (W.alloc (.cells (tokC t).toArray 50)).heap[k]? = W.heap[k]? := by show (W.heap.push _)[k]? = W.heap[k]?; rw [Array.getElem?_push, if_neg (by omega)]
  rw [RowKit.Below.heap_setCell _ _ _ _ h2, R6.out.block k (by simp; omega) (fun e => by have := (tok_base OA k e.symm).1; omega)]
  exact hk2
 have b1 : Below w.heap.size W (W.alloc (.cells (tokC t).toArray 50)) := (Below.refl _ _).alloc (by have := P.out.bw.size; omega) _
 have b2 := b1.grown R6.out (by have := P.out.bw.size; simp; omega) (fun k e => by have := (tok_base OA k e).1; omega)
 have b3 := b2.setCell (p := ⟨gl, 0, none⟩) (by show w.heap.size <= gl; omega) (.slice (some ⟨g', 0, none⟩) (pre.length + 1) cap')
 refine ⟨(((KeepsOthers.alloc W _).from n1).trans (((KeepsOthers.of_grownBy R6.out (fun j o hj ho => tok_cells OA j o hj ho)).from n1).trans ((KeepsOthers.setCell w6 _ _).from n1))), ⟨b3, KK c (Nat.le_refl _) (by omega)⟩, ⟨pre ++ [t], _, (okT_snoc pre t).symm, ⟨(KK g2 (by omega) (by omega)).trans P.out.b2, (KK g3 (by omega) (by omega)).trans P.out.b3, X6.out.set _, ?_, Nat.le_trans P.out.lt b3.size, P.out.nc, P.out.bw.trans b3⟩⟩⟩
 have ho : TOwn (c + 1) (.slice (some ⟨g', 0, none⟩) (pre.length + 1) cap') (pre ++ [t]) w6 := by
  unfold TOwn
  rw [List.length_append, List.length_singleton, toksC_snoc]
  exact O6.out
 exact tok_grown ho (grownBy_setCell' w6 gl _) (fun k hk e => by have h1 := (tok_base ho k hk).1; have h2 := Option.some.inj e; omega)
set_option maxHeartbeats 4000000 in
theorem all_bad (n : Nat) (s : List UInt8) (w : World) (g2 g3 gl gs n1 c lr : Nat) (h2 : w.heap.size <= g2) (h3 : g2 < g3) (h4 : g3 < gl) (h5 : gl < n1) (hc : n1 <= c) (r : List TokL × Option (Nat × Int)) (pre : List TokL) (v : Value) (W : World) (P : TaIn w g2 g3 gl n1 c pre v W) (q : Nat × Int) (hr : r.2 = some q) (eb : Nat) (HE : ErrIs W (.iface 91 (.pointer (some ⟨eb, 0, none⟩))) (.inr q)) (t5 t9 : Value) (xs : List (TokL × Value)) :
  allParts.2.wpIn (Fence.wide.inRound lr) (n - 1 - 1) Tryz.prog (postM n1 (KpT w.heap.size c) (TaI w g2 g3 gl n1 c) (fun d => TaX w g2 g3 r d c) xs W) { tmps := #[.string (B s), undef, .pointer (some ⟨g2, 0, none⟩), .pointer (some ⟨g3, 0, none⟩), .pointer (some ⟨gl, 0, none⟩), t5, .iface 91 (.pointer (some ⟨eb, 0, none⟩)), .string (B s), .func (.func 60) #[] #[.pointer (some ⟨gs, 0, none⟩)], t9, .iface 91 (.pointer (some ⟨eb, 0, none⟩)), undef, undef, undef, undef, undef, undef, undef, undef], defers := [] } W := by
 have c2 := P.b2.cell
 have l2 := P.b2.lt
 have f2 := P.b2.frozen
 have c3 := P.b3.cell
 have l3 := P.b3.lt
 have f3 := P.b3.frozen
 have PP := hid P
 have HEE := hid HE
 have ltW := P.lt
 clear P HE
 have P := PP
 have hne : ¬ g2 = g3 := by omega
 conv => arg 4; whnf
 gi_wp2_with fail
 have b1 := ((Below.refl w.heap.size W).setCell (p := ⟨g2, 0, none⟩) h2 (.slice none 0 0)).setCell (p := ⟨g3, 0, none⟩) (by show w.heap.size <= g3; omega) (.iface 91 (.pointer (some ⟨eb, 0, none⟩)))
 refine ⟨((KeepsOthers.setCell _ _ _).trans (KeepsOthers.setCell _ _ _)).from _, ⟨b1, ?_⟩, rfl, q, _, hr, (P.out.b2.set _).other (by omega) _, (P.out.b3.other (by omega) _).set _, err_box (err_box HEE.out P.out.b2 _) (P.out.b3.other (by omega) _) _, P.out.bw.trans b1⟩
 rw [RowKit.Below.heap_setCell _ _ _ _ (by show c ≠ g3; omega), RowKit.Below.heap_setCell _ _ _ _ (by show c ≠ g2; omega)]
end Go.Proofs.YtdhmpakhdhdebaaGreatDoor
