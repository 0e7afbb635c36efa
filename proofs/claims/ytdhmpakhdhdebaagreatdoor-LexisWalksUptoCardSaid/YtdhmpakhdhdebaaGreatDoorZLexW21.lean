/-
  lexis.All: a contract. By an AI agent.
-/
import Derived.Test.YtdhmpakhdhdebaaGreatDoorZLexW19
import Derived.Test.YtdhmpakhdhdebaaGreatDoorZLexL0
namespace Go.Proofs.YtdhmpakhdhdebaaGreatDoor
open Go.Lib (hid)
open Go.RowKit Go.Shelf
set_option maxRecDepth 1000000
attribute [local go_sem] Oper.semAt_some encT tokV
theorem TaIn.keep {w : World} {g2 g3 gl n1 c : Nat} {ts : List TokL} {v : Value} {W W' : World} {row : Option Nat} (h : TaIn w g2 g3 gl n1 c ts v W) (hg : W.grownBy W' row) (h2 : g2 < n1) (h3 : g3 < n1) (hl : gl < n1) (hw : w.heap.size <= n1) (hr : ∀ r, row = some r -> n1 <= r /\ (r = c \/ ∃ o : Obj, W.heap[r]? = some o /\ o.isCells = false)) : TaIn w g2 g3 gl n1 c ts v W' := by
 have hne : ∀ g, g < n1 -> some g ≠ row := fun g hg e => by have := (hr g e.symm).1; omega
 refine ⟨h.b2.kept hg (hne _ h2), h.b3.kept hg (hne _ h3), h.bl.kept hg (hne _ hl), tok_grown h.ow hg (fun k hk e => ?_), Nat.le_trans h.lt hg.size, h.nc, h.bw.grown hg h.bw.size (fun k e => by have := (hr k e).1; omega)⟩
 obtain ⟨_, hx⟩ := hr k e.symm
 have hb := (tok_base h.ow k hk).1
 rcases hx with rfl | ⟨o, ho, hc⟩
 ·omega
 ·rw [tok_cells h.ow k o hk ho] at hc; cases hc
theorem err_keepT {u u' : World} {ev : Value} {q : Nat × Int} {row : Option Nat} (h : ErrIs u ev (.inr q)) (hg : u.grownBy u' row) (hr : ∀ r, row = some r -> ∃ o : Obj, u.heap[r]? = some o /\ o.isCells = false) : ErrIs u' ev (.inr q) := by
 obtain ⟨p, N⟩ := q
 obtain ⟨b, rfl, e1, e2⟩ := h
 have hlt := World.block_lt_of_cell? _ _ e1
 have e := hg.block b hlt (fun e => by
  obtain ⟨o, ho, hc⟩ := hr b e.symm
  simp only [World.cell?, ho] at e1
  cases o <;> simp_all [Obj.isCells])
 exact ⟨b, rfl, by rw [World.cell?_of_block e]; exact e1, by rw [World.cell?_of_block e]; exact e2⟩
theorem taX_own (w : World) (g2 g3 n1 : Nat) (h2 : g2 < n1) (h3 : g3 < n1) (hw : w.heap.size <= n1) (r : List TokL × Option (Nat × Int)) (k : Code) (c : Nat) : OwnFrom n1 (TaX w g2 g3 r k c) := by
 rintro xs X Y row ⟨hk, q, ev, h1, hb2, hb3, he, hb⟩ hg hr
 have hne : ∀ g, g < n1 -> some g ≠ row := fun g hg e => by have := (hr g e.symm).1; omega
 exact ⟨hk, q, ev, h1, hb2.kept hg (hne _ h2), hb3.kept hg (hne _ h3), err_keepT he hg (fun r e => (hr r e).2), hb.grown hg hb.size (fun k e => by have := (hr k e).1; omega)⟩
theorem okT_inj {a b : List TokL} (h : okT a = okT b) : a = b := by
 have := congrArg (List.map (·.1)) h
 simpa [okT, Function.comp_def] using this
theorem okT_last {a b : List TokL} {t : TokL} {ev : Value} (h : okT a ++ [(t, ev)] = okT b) : ev = .nilIface := by
 have hm : (t, ev) ∈ okT b := by rw [<- h]; simp
 simp only [okT, List.mem_map, Prod.mk.injEq] at hm
 obtain ⟨x, _, _, h2⟩ := hm
 exact h2.symm
theorem toksF_few (l : List UInt8) (less : Bool) : ∀ (c i : Nat), l.length - i <= c -> i <= l.length -> (toksF l less i).1.length <= l.length - i
 | c, i, hc, hi => by
  obtain ⟨x, hx⟩ : ∃ x, stepG l less i = x := ⟨_, rfl⟩
  rcases x with t | f
  ·by_cases hk : t.kind = 0
   ·rw [toksF_end hx hk]; simp
   ·obtain ⟨h, h1, h2, _⟩ := toksF_go hi hx hk
    rw [h]
    match c, hc with
    | 0, hc => omega
    | c + 1, hc =>
     have := toksF_few l less c t.fin.toNat (by omega) h2
     simp only [List.length_cons]
     omega
  ·rw [toksF_bad hx]; simp
theorem head_len (s : List UInt8) : (headL s).length <= s.length := by
 unfold headL
 split
 ·exact Nat.le_refl _
 ·simp; omega
theorem tok_lower {w : World} {b b' : Nat} {v : Value} {l : List TokL} (h : TOwn b v l w) (hb : b' <= b) : TOwn b' v l w := by
 refine ⟨h.1, ?_⟩
 rcases h.2 with h | ⟨g, cap, cur, h1, h2, rest⟩
 ·exact .inl h
 ·exact .inr ⟨g, cap, cur, h1, Nat.le_trans hb h2, rest⟩
theorem results_all (tm : Array Value) (u : World) (g f : Nat) (x y : Value) {T T' : TypeId} (h2 : tm.getD 2 undef = .pointer (some ⟨g, 0, none⟩)) (h3 : tm.getD 3 undef = .pointer (some ⟨f, 0, none⟩)) (hx : Boxed u g T x) (hy : Boxed u f T' y) :
  (results Tryz.f18 tm).run Tryz.prog u = .ok (.tuple #[x, y]) u := by
 have c0 := hx.cell
 have c1 := hy.cell
 have hr : (Tryz.f18).results = #[.cell 2 44, .cell 3 37] := rfl
 rw [Array.getD_eq_getD_getElem?] at h2 h3
 simp [results, h2, h3, go_sem, c0, c1]
def AllPost (w : World) (r : List TokL × Option (Nat × Int)) (e : Ending) (w' : World) : Prop :=
 (r.2 = none /\ ∃ v, e = .returned (.tuple #[v, .nilIface]) /\ TOwn w.heap.size v r.1 w') \/ (∃ q ev, r.2 = some q /\ e = .returned (.tuple #[.slice none 0 0, ev]) /\ ErrIs w' ev (.inr q))
theorem all_start (w : World) (s : List UInt8) : Boxed ((((w.alloc (.cells #[.slice none 0 0] 44)).alloc (.cells #[.nilIface] 37)).alloc (.cells #[.slice none 0 0] 44)).alloc (.cells #[.string (B s)] 9)) (w.heap.size) 44 (.slice none 0 0) /\ Boxed ((((w.alloc (.cells #[.slice none 0 0] 44)).alloc (.cells #[.nilIface] 37)).alloc (.cells #[.slice none 0 0] 44)).alloc (.cells #[.string (B s)] 9)) (w.heap.size + 1) 37 .nilIface /\ Boxed ((((w.alloc (.cells #[.slice none 0 0] 44)).alloc (.cells #[.nilIface] 37)).alloc (.cells #[.slice none 0 0] 44)).alloc (.cells #[.string (B s)] 9)) (w.heap.size + 1 + 1) 44 (.slice none 0 0) /\ ((((w.alloc (.cells #[.slice none 0 0] 44)).alloc (.cells #[.nilIface] 37)).alloc (.cells #[.slice none 0 0] 44)).alloc (.cells #[.string (B s)] 9)).heap[w.heap.size + 1 + 1 + 1]? = some (.cells #[.string (B s)] 9 (0, 0)) /\ Below w.heap.size w ((((w.alloc (.cells #[.slice none 0 0] 44)).alloc (.cells #[.nilIface] 37)).alloc (.cells #[.slice none 0 0] 44)).alloc (.cells #[.string (B s)] 9)) := by
 have x1 := Boxed.new w 44 (.slice none 0 0)
 have x2 := Boxed.new (w.alloc (.cells #[.slice none 0 0] 44)) 37 .nilIface
 have x3 := Boxed.new ((w.alloc (.cells #[.slice none 0 0] 44)).alloc (.cells #[.nilIface] 37)) 44 (.slice none 0 0)
 have x4 := Boxed.new (((w.alloc (.cells #[.slice none 0 0] 44)).alloc (.cells #[.nilIface] 37)).alloc (.cells #[.slice none 0 0] 44)) 9 (.string (B s))
 simp only [World.size_alloc] at x2 x3 x4
 exact ⟨((x1.alloc _).alloc _).alloc _, (x2.alloc _).alloc _, x3.alloc _, x4, ((((Below.refl _ w).alloc (Nat.le_refl _) _).alloc (by simp) _).alloc (by simp; omega) _).alloc (by simp; omega) _⟩
set_option maxHeartbeats 8000000 in
theorem lexAll_l (s : List UInt8) (w : World) (hl : s.length <= 4194304) (hT : TabAt w) (hM : MaxAt w) :
  Calls Tryz.prog 18 #[.string (B s)] w fun e w' => AllPost w (toksF (headL s) (lessB s) 0) e w' /\ Below w.heap.size w w' := by
 have hfew := toksF_few (headL s) (lessB s) (headL s).length 0 (by omega) (by omega)
 have hhl := head_len s
 have HTM := hid (And.intro hT hM)
 have TSQ := fun (n : Nat) (hn : 1 <= n) (Bn n₀ : Nat) (w : World) hn₀ hB hv => tokens_seq n hn Bn n₀ s w hn₀ hB hl hv
 generalize toksF (headL s) (lessB s) 0 = r at hfew TSQ ⊢
 clear hT hM
 refine (callsIn_wide (n := 12)).1 ?_
 refine callsIn_of_wp_marks Tryz.func18 rfl trivial ?_ rfl
 simp only [Tryz.ntmps18, List.size_toArray, List.length_cons, List.length_nil, Nat.reduceAdd, Nat.reduceSub, Array.replicate_succ, Array.replicate_zero, List.push_toArray, List.append_toArray, List.nil_append, List.cons_append]
 gi_wp2_with (refine ⟨trivial, ?_⟩; gi_at_call 39; refine (tokens_fn _ s _).mono ?_; rintro e w2 ⟨rfl, rfl⟩)
 obtain ⟨X2, X3, XL, XS, BW⟩ := all_start w s
 have hsz : ((((w.alloc (.cells #[.slice none 0 0] 44)).alloc (.cells #[.nilIface] 37)).alloc (.cells #[.slice none 0 0] 44)).alloc (.cells #[.string (B s)] 9)).heap.size = w.heap.size + 1 + 1 + 1 + 1 := by simp
 generalize hW0 : ((((w.alloc (.cells #[.slice none 0 0] 44)).alloc (.cells #[.nilIface] 37)).alloc (.cells #[.slice none 0 0] 44)).alloc (.cells #[.string (B s)] 9)) = W0 at X2 X3 XL XS BW hsz ⊢
 clear hW0
 have hW0 : w.heap.size <= W0.heap.size := BW.size
 refine wpIn_rangeP (F := Fence.wide) (n := 12) (encs := encT) (Kp := KpT w.heap.size) (R := Given r) (S := AllGiven r) (Sp := SomeGiven r) (N := r.1.length + 1) (w0 := W0) rfl (by omega) (gf := 60) (lb := #[.pointer (some ⟨w.heap.size + 1 + 1 + 1, 0, none⟩)]) rfl trivial (enters_of Tryz.func60 (by kernel_rfl) rfl)
  (TSQ (12 - 1) (by omega) (w.heap.size + 1 + 1 + 1) w.heap.size W0 BW.size XS (fun W' h => ⟨HTM.out.1.below (BW.trans h), HTM.out.2.below (BW.trans h)⟩)) (Below.refl _ _) (fun h k => ⟨h.1.trans k.1, k.2.trans h.2⟩) ?kp (fun _ => rfl)
  (fun c xs W => TaI w (w.heap.size) (w.heap.size + 1) (w.heap.size + 1 + 1) W0.heap.size c xs W) (fun d c xs W => TaX w (w.heap.size) (w.heap.size + 1) r d c xs W) ?own (fun d c => taX_own w _ _ _ (by omega) (by omega) (by omega) r d c) ?start ?round ?done ?stop
 case kp =>
  intro c W r1 r2 hc hl
  have hlt := (Array.getElem?_eq_some_iff.1 hl).1
  exact ⟨(Below.refl _ _).grown (grownBy_putObj' W _ _) (by omega) (fun k e => by have := Option.some.inj e; omega), World.putObj_heap_other (by omega)⟩
 case own =>
  rintro c xs X Y row ⟨ts, v, rfl, P⟩ hg hr
  exact ⟨ts, v, rfl, P.keep hg (by omega) (by omega) (by omega) (by omega) hr⟩
 case start =>
  intro c V hb h1 h2
  exact ⟨[], _, rfl, boxed_belowT X2 hb (by omega), boxed_belowT X3 hb (by omega), boxed_belowT XL hb (by omega), TOwn.nil _ _, hb.size, by omega, BW.trans (hb.mono (by omega))⟩
 case round =>
  rintro c pre ⟨t, ev⟩ W hc hcW ⟨ts, v, rfl, P⟩ hR hsz ⟨r0, hrec⟩ hlen
  have PP := hid P
  have HRR := hid hR
  have HREC := hid hrec
  clear P hR hrec
  have hBT : Below W.heap.size W (W.alloc (.cells #[.int .i64 t.kind, .string (B t.text), .string (B t.loc), .string (B t.typ), .int .i64 t.at_, .int .i64 t.fin] 50)) := (Below.refl _ _).alloc (Nat.le_refl _) _
  have hGT : W.grownBy (W.alloc (.cells #[.int .i64 t.kind, .string (B t.text), .string (B t.loc), .string (B t.typ), .int .i64 t.at_, .int .i64 t.fin] 50)) none := World.grownBy_alloc W _ none
  have hV : W.heap.size + 1 <= (W.alloc (.cells #[.int .i64 t.kind, .string (B t.text), .string (B t.loc), .string (B t.typ), .int .i64 t.at_, .int .i64 t.fin] 50)).heap.size := by simp
  have hRT : RowAt (W.alloc (.cells #[.int .i64 t.kind, .string (B t.text), .string (B t.loc), .string (B t.typ), .int .i64 t.at_, .int .i64 t.fin] 50)) W.heap.size (tokC t) := rowAt_of_heap (heap_alloc_new W _)
  gi_wp2
  generalize W.alloc (.cells #[.int .i64 t.kind, .string (B t.text), .string (B t.loc), .string (B t.typ), .int .i64 t.at_, .int .i64 t.fin] 50) = V at hV hRT hGT hBT ⊢
  have hrec2 : V.heap[W0.heap.size + 1]? = some (.loop r0) := (hBT.block _ (by omega)).trans HREC.out
  refine ⟨⟨(keeps_belowT hBT).from _, ⟨hBT.mono (by omega), hBT.block c hcW⟩⟩, fun r' => ?_⟩
  have PV := ((PP.out.keep hGT (by omega) (by omega) (by omega) (by omega) (by simp)).keep (grownBy_putObj' V (W0.heap.size + 1) (.loop r')) (by omega) (by omega) (by omega) (by omega) (fun r2 e => by
   have := Option.some.inj e
   subst this
   exact ⟨by omega, .inr ⟨_, hrec2, rfl⟩⟩))
  have hsV : (V.putObj (W0.heap.size + 1) (.loop r')).heap.size = V.heap.size := by simp
  rcases HRR.out with ⟨pre', rest, h1, h2⟩ | ⟨ev', q, h1, h2, h3⟩
  ·have hev : ev = .nilIface := okT_last h2
   subst hev
   have hts : ts.length <= r.1.length := by
    have := congrArg List.length h2
    have h4 := congrArg List.length h1
    simp [okT] at this h4
    omega
   refine all_new 12 (by omega) s w _ _ _ _ _ c (W0.heap.size + 1) (by omega) (by omega) (by omega) (by omega) (by omega) r ts t v _ (by omega) PV (by omega) W.heap.size (by omega) (by omega) ?_ .nilIface
   exact rowAt_block hRT (World.putObj_heap_other (by omega))
  ·have h4 := List.append_inj h2 (by have := congrArg List.length h2; simp at this; simp [okT] at this ⊢; omega)
   have h5 : t = noTok /\ ev = ev' := by simpa using h4.2
   obtain ⟨rfl, rfl⟩ := h5
   have hE := err_keepT (err_keepT h3 hGT (by simp)) (grownBy_putObj' V (W0.heap.size + 1) (.loop r')) (fun r2 e => by
    have := Option.some.inj e
    subst this
    exact ⟨_, hrec2, rfl⟩)
   obtain ⟨p, N⟩ := q
   obtain ⟨eb, rfl, e1, e2⟩ := hE
   exact all_bad 12 s w _ _ _ _ _ c (W0.heap.size + 1) (by omega) (by omega) (by omega) (by omega) (by omega) r ts v _ PV (p, N) h1 eb ⟨eb, rfl, e1, e2⟩ _ _ _
 case done =>
  rintro c xs W hS ⟨ts, v, rfl, P⟩ hK
  obtain ⟨hn, hts⟩ : r.2 = none /\ ts = r.1 := by
   rcases hS with ⟨h1, h2⟩ | ⟨ev, q, h0, h1, h2⟩
   ·exact ⟨h1, okT_inj h2⟩
   ·exact absurd (okT_last h2.symm) h0
  subst hts
  obtain ⟨va, vc, rfl, _, _⟩ := P.ow.view
  have c4 := P.bl.cell
  have l4 := P.bl.lt
  have k2 := P.b2.cell
  have k3 := P.b3.cell
  have f2 := P.b2.frozen
  have f3 := P.b3.frozen
  have l2 := P.b2.lt
  have l3 := P.b3.lt
  have hlt := P.lt
  have hnc := P.nc
  have PP := hid P
  have HK := hid hK
  have HN := hid hn
  clear P hK hS hn
  gi_wp2_with fail
  have hDl := (Array.getElem?_eq_some_iff.1 HK.out).1
  have hK5 := (KeepsOthers.setCell (W.setCell ⟨w.heap.size, 0, none⟩ (.slice va r.1.length vc)) ⟨w.heap.size + 1, 0, none⟩ .nilIface).same W0.heap.size _ ((KeepsOthers.setCell W ⟨w.heap.size, 0, none⟩ (.slice va r.1.length vc)).same W0.heap.size _ HK.out rfl) rfl
  refine ⟨by simp, .inl ⟨_, _, rfl, run_takeDeferred hK5, ?_⟩⟩
  have y2 := ((PP.out.b2.set (.slice va r.1.length vc)).other (B' := w.heap.size + 1) (by omega) .nilIface).kept (grownBy_putObj' _ W0.heap.size (.deferred none)) (by simp; omega)
  have y3 := ((PP.out.b3.other (B' := w.heap.size) (by omega) (.slice va r.1.length vc)).set .nilIface).kept (grownBy_putObj' _ W0.heap.size (.deferred none)) (by simp; omega)
  refine ⟨_, results_all _ _ _ _ _ _ rfl rfl y2 y3, .inl ⟨HN.out, _, rfl, ?_⟩, ?_⟩
  ·have h1 := tok_grown PP.out.ow (grownBy_setCell' W (w.heap.size) (.slice va r.1.length vc)) (fun k hk e => by have h1 := (tok_base PP.out.ow k hk).1; have h2 := Option.some.inj e; omega)
   have h2 := tok_grown h1 (grownBy_setCell' _ (w.heap.size + 1) .nilIface) (fun k hk e => by have h1 := (tok_base h1 k hk).1; have h2 := Option.some.inj e; omega)
   have h3 := tok_grown h2 (grownBy_putObj' _ W0.heap.size (.deferred none)) (fun k hk e => by have h1 := (tok_base h2 k hk).1; have h2 := Option.some.inj e; omega)
   exact tok_lower h3 (by omega)
  ·exact (((PP.out.bw.setCell (p := ⟨w.heap.size, 0, none⟩) (Nat.le_refl _) (.slice va r.1.length vc)).setCell (p := ⟨w.heap.size + 1, 0, none⟩) (by show w.heap.size <= w.heap.size + 1; omega) .nilIface)).grown (grownBy_putObj' _ W0.heap.size (.deferred none)) (by simp; omega) (fun k e => by have := Option.some.inj e; omega)
 case stop =>
  rintro k c pre W hSp ⟨rfl, q, ev, h1, h2, h3, h4, h5⟩ hK
  have H1 := hid h1
  have H2 := hid h2
  have H3 := hid h3
  have H4 := hid h4
  have H5 := hid h5
  have HK := hid hK
  clear h1 h2 h3 h4 h5 hK hSp
  gi_wp2_with fail
  have hDl := (Array.getElem?_eq_some_iff.1 HK.out).1
  refine ⟨by simp, .inl ⟨_, _, rfl, run_takeDeferred HK.out, ?_⟩⟩
  have hr : ∀ k, some W0.heap.size = some k -> ∃ o : Obj, W.heap[k]? = some o /\ o.isCells = false := fun k e => by cases e; exact ⟨_, HK.out, rfl⟩
  have y2 := H2.out.kept (grownBy_putObj' _ W0.heap.size (.deferred none)) (by simp; omega)
  have y3 := H3.out.kept (grownBy_putObj' _ W0.heap.size (.deferred none)) (by simp; omega)
  refine ⟨_, results_all _ _ _ _ _ _ rfl rfl y2 y3, .inr ⟨q, ev, H1.out, rfl, err_keepT H4.out (grownBy_putObj' _ W0.heap.size (.deferred none)) hr⟩, ?_⟩
  exact H5.out.grown (grownBy_putObj' _ W0.heap.size (.deferred none)) H5.out.size (fun k e => by have := Option.some.inj e; omega)
end Go.Proofs.YtdhmpakhdhdebaaGreatDoor
namespace Go.Proofs.YtdhmpakhdhdebaaGreatDoor
open Go.Lib (hid)
open Go.RowKit
set_option maxRecDepth 100000
theorem toks_get (l : List TokL) : ∀ (k : Nat) (hk : k < l.length) (j : Nat) (u : Value), (tokC l[k])[j]? = some u -> (toksC l)[6 * k + j]? = some u := by
 induction l with
 | nil => intro k hk; simp at hk
 | cons t l ih =>
  intro k hk j u hu
  have e : toksC (t :: l) = tokC t ++ toksC l := by simp [toksC]
  have h6 : (tokC t).length = 6 := rfl
  have hj : j < 6 := by
   have := (List.getElem?_eq_some_iff.1 hu).1
   simpa [tokC] using this
  rw [e]
  cases k with
  | zero => rw [List.getElem?_append_left (by omega)]; simpa using hu
  | succ k =>
   rw [List.getElem?_append_right (by omega), h6, show 6 * (k + 1) + j - 6 = 6 * k + j by omega]
   exact ih k (by simpa using hk) j u (by simpa using hu)
theorem tok_at6 {w : World} {g o : Nat} {l : List TokL} (h : At w (some ⟨g, o, none⟩) (toksC l)) {k : Nat} (hk : k < l.length) :
  w.cell? ⟨g, o + k * 6, none⟩ = some (.int .i64 l[k].kind) /\ w.cell? ⟨g, o + k * 6 + 1, none⟩ = some (.string (B l[k].text)) /\ w.cell? ⟨g, o + k * 6 + 2, none⟩ = some (.string (B l[k].loc)) /\ w.cell? ⟨g, o + k * 6 + 3, none⟩ = some (.string (B l[k].typ)) /\ w.cell? ⟨g, o + k * 6 + 4, none⟩ = some (.int .i64 l[k].at_) /\ w.cell? ⟨g, o + k * 6 + 5, none⟩ = some (.int .i64 l[k].fin) := by
 have key : ∀ (j : Nat) (u : Value), (tokC l[k])[j]? = some u -> w.cell? ⟨g, o + k * 6 + j, none⟩ = some u := by
  intro j u hu
  have h1 := toks_get l k hk j u hu
  obtain ⟨hj, h2⟩ := List.getElem?_eq_some_iff.1 h1
  obtain ⟨g', o', e, h3⟩ := h (6 * k + j) hj
  cases e
  rw [show o + k * 6 + j = o + (6 * k + j) by omega, h3, h2]
 exact ⟨key 0 _ rfl, key 1 _ rfl, key 2 _ rfl, key 3 _ rfl, key 4 _ rfl, key 5 _ rfl⟩
set_option maxHeartbeats 3200000 in
theorem sameTokens_l (l : List TokL) (va vb : Value) (w : World) (ha : TView w va l) (hb : TView w vb l) (hl : l.length <= 4194304) :
  Calls Tryz.prog 21 #[va, vb] w fun e w' => e = .returned (.bool true) /\ ∃ n, w' = w.drewN n := by
 obtain ⟨a, ca, rfl, ha1, ha2⟩ := ha
 obtain ⟨b, cb, rfl, hb1, hb2⟩ := hb
 have HA := hid ha2
 have HB := hid hb2
 clear ha2 hb2
 go_enter Tryz.func21, Tryz.ntmps21
 go_wp2_with fail
 go_loopw [5] (fun s wr => ∃ k q : Nat, s = .int .i64 k /\ k <= l.length /\ wr = w.drewN q) (fun s _ => l.length - (intOf s).toNat)
 case atStart => exact ⟨0, 0, rfl, Nat.zero_le _, rfl⟩
 case round =>
  obtain ⟨k, q, rfl, hk, rfl⟩ := hrel
  by_cases hlt : k < l.length
  ·have c1 : decide ((k : Int) < (l.length : Int)) = true := decide_eq_true (by omega)
   have c2 : decide (k < l.length) = true := decide_eq_true hlt
   have i0 : 0 <= (k : Int) := by omega
   have i1 : (k : Int) < (l.length : Int) := by omega
   have i2 : k < ca := by omega
   have i3 : k < cb := by omega
   obtain ⟨g, o, rfl⟩ := HA.out.place (by rw [toksC_len]; omega)
   obtain ⟨f, p, rfl⟩ := HB.out.place (by rw [toksC_len]; omega)
   obtain ⟨a0, a1, a2, a3, a4, a5⟩ := tok_at6 HA.out hlt
   obtain ⟨b0, b1, b2, b3, b4, b5⟩ := tok_at6 HB.out hlt
   generalize l[k] = t at a0 a1 a2 a3 a4 a5 b0 b1 b2 b3 b4 b5
   go_wp2_with fail
   go_quiet (fail)
   go_wp2_with fail
   go_roundw
   case rel => exact ⟨k + 1, q + nq, by go_num, by omega, rfl⟩
   case measure => simp [intOf]; omega
  ·have c1 : decide ((k : Int) < (l.length : Int)) = false := decide_eq_false (by omega)
   have c2 : decide (k < l.length) = false := decide_eq_false hlt
   go_wp2_with fail
   go_ret
   exact ⟨rfl, q, rfl⟩
end Go.Proofs.YtdhmpakhdhdebaaGreatDoor
namespace Go.Proofs.YtdhmpakhdhdebaaGreatDoor
open Go.Lib (hid)
open Go.RowKit
set_option maxRecDepth 100000
theorem TView.below {w w' : World} {v : Value} {l : List TokL} (h : TView w v l) (hb : Below w.heap.size w w') : TView w' v l := by
 obtain ⟨a, cap, rfl, hc, hq⟩ := h
 exact ⟨a, cap, rfl, hc, hq.below hb⟩
def allR (s : List UInt8) : List TokL × Option (Nat × Int) := toksF (headL s) (lessB s) 0
theorem ends_few (s : List UInt8) : (allR s).1.length <= s.length := by
 have h1 := toksF_few (headL s) (lessB s) (headL s).length 0 (by omega) (by omega)
 have h2 := head_len s
 unfold allR
 omega
end Go.Proofs.YtdhmpakhdhdebaaGreatDoor
