/-
  tesseraref10.Tokens: a contract. By an AI agent.
-/
import Derived.Test.YtdhmpakhdhdebaaGreatDoorZLexW21
import Derived.Test.YtdhmpakhdhdebaaGreatDoorZLexS2
namespace Go.Proofs.YtdhmpakhdhdebaaGreatDoor
open Go.Lib (hid)
open Go.RowKit
set_option maxRecDepth 100000
def wrongP : Option (Nat × Int) -> Int
 | none => 0
 | some (p, _) => (p : Int)
def wrongN : Option (Nat × Int) -> Int
 | none => 0
 | some (_, n) => n
theorem tok_below {w w' : World} {base : Nat} {v : Value} {l : List TokL} (h : TOwn base v l w) (hb : Below w.heap.size w w') : TOwn base v l w' := ownsRow_below h hb
theorem tok_two {w : World} {base g : Nat} {v : Value} {l : List TokL} (h : TOwn base v l w) (hg : g < base) (x y : Value) : TOwn base v l ((w.setCell ⟨g, 0, none⟩ x).setCell ⟨g, 1, none⟩ y) := by
 have h1 := tok_grown h (grownBy_setCell1 w g 0 x) (fun k hk e => by have := (tok_base h k hk).1; have := Option.some.inj e; omega)
 exact tok_grown h1 (grownBy_setCell1 _ g 1 y) (fun k hk e => by have := (tok_base h k hk).1; have := Option.some.inj e; omega)
theorem wpList_append_tokG {ops : Array Oper} {rest : List Oper} {o : Oper} {a : Act} {w : World} {Q : Exit -> Act -> World -> Prop} (hgd : o.guard = none) (s x : Operand)
  (ho : o.op = .call { callee := .builtin .append, args := #[s, x], argTypes := #[44, 44] })
  (base : Nat) (v : Value) (l : List TokL) (hs : a.eval s = v) (w0 : World) (hown : TOwn base v l w0) (q : TokL) (T : TypeId) (hw : w = w0.alloc (.cells (tokC q).toArray T))
  (hx : a.eval x = .slice (some ⟨w0.heap.size, 0, none⟩) 1 1) (hl : l.length <= 8388608) (hbase : base <= w0.heap.size)
  (h : ∀ v' w', TOwn base v' (l ++ [q]) w' -> w0.grownBy w' v.ownBlock -> wpList Tryz.prog ops Q rest (a.put o.dst v') w') : wpList Tryz.prog ops Q (o :: rest) a w := by
 subst hw
 obtain ⟨i0, hi, hz0, hz1, hz2⟩ := info_parts infoT
 refine wpList_append_own (P := Tryz.prog) _ hgd s x 44 ho base 50 i0 _ 6 72 Tryz.underlying44 hi hz0 hz1 hz2 rfl (by decide) v l.length (toksC l) hs (World.ownsRow.alloc hown _)
  ⟨w0.heap.size, 0, none⟩ 1 1 (tokC q) hx rfl (cell_row w0 (tokC q) T) (oneCell_tok q) (by unfold maxLen; omega) (by omega) (by simp; omega) ?_
 intro v' w' h1 h2 _
 refine h v' w' ?_ (grownR_trans (World.grownBy_alloc w0 _ _) h2)
 unfold TOwn
 rw [toksC_snoc, List.length_append, List.length_singleton]
 exact h1
set_option maxHeartbeats 6400000 in
theorem refTokens10_l (s : List UInt8) (w : World) (hl : s.length <= 1048576) :
  Calls Tryz.prog 29 #[.string (B s)] w fun e w' => (∃ v, e = .returned (.tuple #[v, .agg #[.int .i64 (wrongP (toksF (headL s) (lessB s) 0).2), .int .i64 (wrongN (toksF (headL s) (lessB s) 0).2)]]) /\ TOwn w.heap.size v (toksF (headL s) (lessB s) 0).1 w') /\ Below w.heap.size w w' := by
 have NW := hid (fun (u : World) => refNew10_l s u (by omega))
 have hll := head_len s
 obtain ⟨l, hhl⟩ : ∃ l, headL s = l := ⟨_, rfl⟩
 obtain ⟨less, hle⟩ : ∃ less, lessB s = less := ⟨_, rfl⟩
 rw [hhl, hle] at NW
 rw [hhl] at hll
 rw [hhl, hle]
 replace hll : l.length <= 1048576 := by omega
 clear hhl hle
 have hfew := toksF_few l less l.length 0 (by omega) (by omega)
 have HF0 : Hid (RowAt (w.alloc (.cells #[.int .i64 0, .int .i64 0] 64)) w.heap.size [.int .i64 0, .int .i64 0]) := hid (rowAt_of_heap (heap_alloc_new w _))
 have HB0 : Hid (Below w.heap.size w (w.alloc (.cells #[.int .i64 0, .int .i64 0] 64))) := hid ((Below.refl _ _).alloc (Nat.le_refl _) _)
 obtain ⟨W, hW⟩ : ∃ W, w.alloc (.cells #[.int .i64 0, .int .i64 0] 64) = W := ⟨_, rfl⟩
 rw [hW] at HF0 HB0
 go_enter Tryz.func29, Tryz.ntmps29
 go_upto_region 2 with (go_at_call 24; (with_reducible refine (NW.out _).mono ?_); rintro e w1 ⟨b, rfl, hbW, hx1, hb1⟩; have HX1 := hid hx1; have HF1 := hid (RowAt.below HF0.out hb1 HF0.out.inside); have HB1 := hid (HB0.out.trans (hb1.mono HB0.out.size)); clear hx1 hb1)
 have hwW : w.heap.size < W.heap.size := HF0.out.inside
 clear HF0 HB0 hW
 have hb1 : b < w1.heap.size := HX1.out.inside
 have hBw : w.heap.size < w1.heap.size := by omega
 go_wp2_with fail
 go_loopw [5] (fun v wr => ∃ (acc : List TokL) (j : Nat), j <= l.length /\ Hid (toksF l less 0 = (acc ++ (toksF l less j).1, (toksF l less j).2)) /\ Hid (TOwn w1.heap.size v acc wr) /\ Hid (RLex wr b l j less 0 0) /\ Hid (RowAt wr w.heap.size [.int .i64 0, .int .i64 0]) /\ Hid (Below w.heap.size w wr) /\ w1.heap.size <= wr.heap.size) (fun v _ => l.length + 1 - slLen v)
 case atStart => exact ⟨[], 0, Nat.zero_le _, hid rfl, hid (TOwn.nil _ _), HX1, HF1, HB1, Nat.le_refl _⟩
 case round =>
  obtain ⟨acc, j, hj, HT, HO, HX, HF, HB, hsz⟩ := hrel
  clear HX1 HF1 HB1
  obtain ⟨va, vc, rfl, hvc, _⟩ := TOwn.view HO.out
  have hal : acc.length <= l.length := by
   have h1 := congrArg (fun x => x.1.length) HT.out
   simp only [List.length_append] at h1
   omega
  obtain ⟨r, hs⟩ : ∃ r, stepG l less j = r := ⟨_, rfl⟩
  rcases r with ⟨k, x, y, z, a, f⟩ | ⟨p, n⟩
  ·by_cases hk : k = 0
   ·subst hk
    have HI : Hid (toksF l less 0 = (acc, none)) := hid (by rw [HT.out, toksF_end hs rfl, List.append_nil])
    have S2 : Hid (∀ u, RLex u b l j less 0 0 -> Calls Tryz.prog 26 #[.pointer (some ⟨b, 0, none⟩)] u fun e w' => e = .returned (.tuple #[tokV 0 (B x) (B y) (B z) a f, .agg #[.int .i64 0, .int .i64 0]]) /\ RLex w' b l f.toNat less 0 0 /\ u.grownBy w' (some b)) := hid (fun u hx => by have h := refStep10_l l less j b u hx hj hll; rw [hs] at h; exact h)
    clear HT hs
    go_upto_region 4 with (go_at_call 26; (with_reducible refine (S2.out _ HX.out).mono ?_); rintro e w3 ⟨rfl, hx, hg⟩; have HX3 := hid hx; have HO3 := hid (tok_grown HO.out hg (fun k hk e => by have h1 := (tok_base HO.out k hk).1; have h2 := Option.some.inj e; omega)); have HF3 := hid (RowAt.grows HF.out (by simp) hg (by omega)); have HB3 := hid (HB.out.grown hg HB.out.size (fun k e => by have h2 := Option.some.inj e; omega)); have hsz3 := hg.size; clear hx hg; unfold tokV)
    obtain ⟨V, hV⟩ : ∃ V, (w3.alloc (.cells #[.int .i64 0, .string (B x), .string (B y), .string (B z), .int .i64 a, .int .i64 f] 50)).alloc (.cells #[.int .i64 0, .int .i64 0] 64) = V := ⟨_, rfl⟩
    rw [hV]
    obtain ⟨T6, T2, hb, hs9⟩ := tkBox hV
    obtain ⟨⟨b0, b1, b2, b3, b4, b5⟩, _, _, _, _, _, _⟩ := row6 T6
    have t0 := T2.cell (j := 0) (by simp)
    have t1 := T2.cell (j := 1) (by simp)
    simp only [List.getElem_cons_zero, List.getElem_cons_succ] at t0 t1
    have hF4 := RowAt.below HF3.out hb HF3.out.inside
    obtain ⟨c0, c1, v0, v1⟩ := two_of hF4
    have s1 : ¬ w3.heap.size = w.heap.size := by have := HF3.out.inside; omega
    have s2 : ¬ w3.heap.size + 1 = w.heap.size := by have := HF3.out.inside; omega
    have HF4 := hid hF4
    have HO4 := hid (tok_below HO3.out hb)
    have HX4 := hid (RowAt.below HX3.out hb HX3.out.inside)
    have HB4 := hid (HB3.out.trans (hb.mono HB3.out.size))
    have hsz4 : w1.heap.size <= V.heap.size := by omega
    clear hV T6 T2 hs9 hb hF4 HF3 HO3 HX3 HB3
    go_upto_region 5 with fail
    go_region
    all_goals (go_wp2_with fail)
    all_goals
     have q0 := (RowAt.set (RowAt.set HF4.out (j := 0) (by simp) (.int .i64 0)) (j := 1) (by simp) (.int .i64 0))
     refine bodyPost_ret (v := .tuple #[.slice va acc.length vc, .agg #[(.int .i64 0), (.int .i64 0)]]) (by simp [results, Tryz.results29, go_sem, q0.cell (j := 0), q0.cell (j := 1)]) rfl ?_
     exact ⟨⟨_, by rw [HI.out]; rfl, by rw [HI.out]; exact tok_lower (tok_two HO4.out hBw _ _) (by omega)⟩, ((HB4.out.setCell (p := ⟨w.heap.size, 0, none⟩) (Nat.le_refl _) _).setCell (p := ⟨w.heap.size, 1, none⟩) (Nat.le_refl _) _).drew⟩
   ·have z0 : (k == 0) = false := beq_eq_false_iff_ne.2 hk
    obtain ⟨hgo, hjf, hfl, _⟩ := toksF_go hj hs hk
    have HI : Hid (toksF l less 0 = ((acc ++ [⟨k, x, y, z, a, f⟩]) ++ (toksF l less f.toNat).1, (toksF l less f.toNat).2)) := hid (by rw [HT.out, hgo]; simp)
    have hal2 : acc.length + 1 <= l.length := by
     have h1 := congrArg (fun x => x.1.length) HI.out
     simp only [List.length_append, List.length_singleton] at h1
     omega
    have S2 : Hid (∀ u, RLex u b l j less 0 0 -> Calls Tryz.prog 26 #[.pointer (some ⟨b, 0, none⟩)] u fun e w' => e = .returned (.tuple #[tokV k (B x) (B y) (B z) a f, .agg #[.int .i64 0, .int .i64 0]]) /\ RLex w' b l f.toNat less 0 0 /\ u.grownBy w' (some b)) := hid (fun u hx => by have h := refStep10_l l less j b u hx hj hll; rw [hs] at h; exact h)
    clear HT hs hgo hk
    go_upto_region 4 with (go_at_call 26; (with_reducible refine (S2.out _ HX.out).mono ?_); rintro e w3 ⟨rfl, hx, hg⟩; have HX3 := hid hx; have HO3 := hid (tok_grown HO.out hg (fun k hk e => by have h1 := (tok_base HO.out k hk).1; have h2 := Option.some.inj e; omega)); have HF3 := hid (RowAt.grows HF.out (by simp) hg (by omega)); have HB3 := hid (HB.out.grown hg HB.out.size (fun k e => by have h2 := Option.some.inj e; omega)); have hsz3 := hg.size; clear hx hg; unfold tokV)
    obtain ⟨V, hV⟩ : ∃ V, (w3.alloc (.cells #[.int .i64 k, .string (B x), .string (B y), .string (B z), .int .i64 a, .int .i64 f] 50)).alloc (.cells #[.int .i64 0, .int .i64 0] 64) = V := ⟨_, rfl⟩
    rw [hV]
    obtain ⟨T6, T2, hb, hs9⟩ := tkBox hV
    obtain ⟨⟨b0, b1, b2, b3, b4, b5⟩, _, _, _, _, _, _⟩ := row6 T6
    have t0 := T2.cell (j := 0) (by simp)
    have t1 := T2.cell (j := 1) (by simp)
    simp only [List.getElem_cons_zero, List.getElem_cons_succ] at t0 t1
    have hF4 := RowAt.below HF3.out hb HF3.out.inside
    obtain ⟨c0, c1, v0, v1⟩ := two_of hF4
    have s1 : ¬ w3.heap.size = w.heap.size := by have := HF3.out.inside; omega
    have s2 : ¬ w3.heap.size + 1 = w.heap.size := by have := HF3.out.inside; omega
    have HF4 := hid hF4
    have HO4 := hid (tok_below HO3.out hb)
    have HX4 := hid (RowAt.below HX3.out hb HX3.out.inside)
    have HB4 := hid (HB3.out.trans (hb.mono HB3.out.size))
    have hsz4 : w1.heap.size <= V.heap.size := by omega
    clear hV T6 T2 hs9 hb hF4 HF3 HO3 HX3 HB3
    go_wp2_with (at_builtin; refine wpList_append_tokG rfl (.tmp 25) (.tmp 27) rfl w1.heap.size _ acc rfl V HO4.out ⟨k, x, y, z, a, f⟩ 50 rfl rfl (by omega) (by omega) ?_; intro v6 w6 ho6 hg6; have HO6 := hid ho6; have HX6 := hid (RowAt.grown HX4.out hg6 (fun e => by have := (tok_base HO4.out _ e.symm).1; omega) HX4.out.inside); have HF6 := hid (RowAt.grown HF4.out hg6 (fun e => by have := (tok_base HO4.out _ e.symm).1; omega) HF4.out.inside); have HB6 := hid (HB4.out.grown hg6 HB4.out.size (fun k e => by have := (tok_base HO4.out _ e).1; omega)); have hsz6 := hg6.size; clear ho6 hg6)
    obtain ⟨va6, vc6, rfl, _, _⟩ := TOwn.view HO6.out
    go_roundw
    case rel => exact ⟨acc ++ [⟨k, x, y, z, a, f⟩], f.toNat, hfl, HI, HO6, HX6, HF6, HB6, by omega⟩
    case measure => simp [slLen]; omega
  ·have n0 : (n != 0) = true := bne_iff_ne.2 (by have := ((step_at (less := less) hj).2 p n hs).2.2; omega)
   have HI : Hid (toksF l less 0 = (acc, some (p, n))) := hid (by rw [HT.out, toksF_bad hs, List.append_nil])
   have S2 : Hid (∀ u, RLex u b l j less 0 0 -> Calls Tryz.prog 26 #[.pointer (some ⟨b, 0, none⟩)] u fun e w' => e = .returned (.tuple #[tokV 0 ⟨#[]⟩ ⟨#[]⟩ ⟨#[]⟩ 0 0, .agg #[.int .i64 (p : Int), .int .i64 n]]) /\ RLex w' b l j less (p : Int) n /\ u.grownBy w' (some b)) := hid (fun u hx => by have h := refStep10_l l less j b u hx hj hll; rw [hs] at h; exact h)
   clear HT hs
   go_upto_region 4 with (go_at_call 26; (with_reducible refine (S2.out _ HX.out).mono ?_); rintro e w3 ⟨rfl, hx, hg⟩; have HX3 := hid hx; have HO3 := hid (tok_grown HO.out hg (fun k hk e => by have h1 := (tok_base HO.out k hk).1; have h2 := Option.some.inj e; omega)); have HF3 := hid (RowAt.grows HF.out (by simp) hg (by omega)); have HB3 := hid (HB.out.grown hg HB.out.size (fun k e => by have h2 := Option.some.inj e; omega)); have hsz3 := hg.size; clear hx hg; unfold tokV)
   obtain ⟨V, hV⟩ : ∃ V, (w3.alloc (.cells #[.int .i64 0, .string ⟨#[]⟩, .string ⟨#[]⟩, .string ⟨#[]⟩, .int .i64 0, .int .i64 0] 50)).alloc (.cells #[.int .i64 (p : Int), .int .i64 n] 64) = V := ⟨_, rfl⟩
   rw [hV]
   obtain ⟨T6, T2, hb, hs9⟩ := tkBox hV
   obtain ⟨⟨b0, b1, b2, b3, b4, b5⟩, _, _, _, _, _, _⟩ := row6 T6
   have t0 := T2.cell (j := 0) (by simp)
   have t1 := T2.cell (j := 1) (by simp)
   simp only [List.getElem_cons_zero, List.getElem_cons_succ] at t0 t1
   have hF4 := RowAt.below HF3.out hb HF3.out.inside
   obtain ⟨c0, c1, v0, v1⟩ := two_of hF4
   have s1 : ¬ w3.heap.size = w.heap.size := by have := HF3.out.inside; omega
   have s2 : ¬ w3.heap.size + 1 = w.heap.size := by have := HF3.out.inside; omega
   have HF4 := hid hF4
   have HO4 := hid (tok_below HO3.out hb)
   have HX4 := hid (RowAt.below HX3.out hb HX3.out.inside)
   have HB4 := hid (HB3.out.trans (hb.mono HB3.out.size))
   have hsz4 : w1.heap.size <= V.heap.size := by omega
   clear hV T6 T2 hs9 hb hF4 HF3 HO3 HX3 HB3
   go_upto_region 5 with fail
   go_region
   all_goals (go_wp2_with fail)
   all_goals
    have q0 := (RowAt.set (RowAt.set HF4.out (j := 0) (by simp) (.int .i64 (p : Int))) (j := 1) (by simp) (.int .i64 n))
    refine bodyPost_ret (v := .tuple #[.slice va acc.length vc, .agg #[(.int .i64 (p : Int)), (.int .i64 n)]]) (by simp [results, Tryz.results29, go_sem, q0.cell (j := 0), q0.cell (j := 1)]) rfl ?_
    exact ⟨⟨_, by rw [HI.out]; rfl, by rw [HI.out]; exact tok_lower (tok_two HO4.out hBw _ _) (by omega)⟩, ((HB4.out.setCell (p := ⟨w.heap.size, 0, none⟩) (Nat.le_refl _) _).setCell (p := ⟨w.heap.size, 1, none⟩) (Nat.le_refl _) _).drew⟩
end Go.Proofs.YtdhmpakhdhdebaaGreatDoor
namespace Go.Proofs.YtdhmpakhdhdebaaGreatDoor
open Go.Lib (hid)
open Go.RowKit
set_option maxRecDepth 100000
def allL (s : List UInt8) : List TokL := if (allR s).2 = none then (allR s).1 else []
def allX : Option (Nat × Int) -> TokR
 | none => .inl noTok
 | some q => .inr q
theorem flt_wrong (r : Option (Nat × Int)) : fltT (allX r) = .agg #[.int .i64 (wrongP r), .int .i64 (wrongN r)] := by
 rcases r with _ | ⟨p, n⟩ <;> rfl
theorem toksF_err (l : List UInt8) (less : Bool) : ∀ (c i : Nat), l.length - i <= c -> i <= l.length -> ∀ p n, (toksF l less i).2 = some (p, n) -> 0 < n
 | c, i, hc, hi, p, n, h => by
  obtain ⟨x, hx⟩ : ∃ x, stepG l less i = x := ⟨_, rfl⟩
  rcases x with t | f
  ·by_cases hk : t.kind = 0
   ·rw [toksF_end hx hk] at h; cases h
   ·obtain ⟨h0, h1, h2, _⟩ := toksF_go hi hx hk
    rw [h0] at h
    match c, hc with
    | 0, hc => omega
    | c + 1, hc => exact toksF_err l less c t.fin.toNat (by omega) h2 p n h
  ·rw [toksF_bad hx] at h
   cases h
   exact ((step_at (less := less) hi).2 p n hx).2.2
theorem wrong_pos (s : List UInt8) (h : (allR s).2 ≠ none) : wrongN (allR s).2 ≠ 0 := by
 obtain ⟨q, hq⟩ : ∃ q, (allR s).2 = some q := by
  cases e : (allR s).2 with
  | none => exact absurd e h
  | some q => exact ⟨q, rfl⟩
 have := toksF_err (headL s) (lessB s) (headL s).length 0 (by omega) (by omega) q.1 q.2 hq
 rw [hq]
 show q.2 ≠ 0
 omega
theorem lexAll_t (s : List UInt8) (w : World) (hl : s.length <= 4194304) (hT : TabAt w) (hM : MaxAt w) :
  Calls Tryz.prog 18 #[.string (B s)] w fun e w' => ∃ v ev, e = .returned (.tuple #[v, ev]) /\ TOwn w.heap.size v (allL s) w' /\ ErrT w' ev (allX (allR s).2) /\ Below w.heap.size w w' := by
 refine (lexAll_l s w hl hT hM).mono ?_
 rintro e w' ⟨hp, hb⟩
 rcases hp with ⟨h1, v, rfl, h2⟩ | ⟨q, ev, h1, rfl, h2⟩
 ·refine ⟨v, _, rfl, ?_, ?_, hb⟩
  ·have h0 : (allR s).2 = none := h1
   unfold allL; rw [if_pos h0]; exact h2
  ·have : (allR s).2 = none := h1
   rw [this]; rfl
 ·have : (allR s).2 = some q := h1
  refine ⟨_, ev, rfl, ?_, ?_, hb⟩
  ·unfold allL; rw [if_neg (by rw [this]; simp)]; exact TOwn.nil _ _
  ·rw [this]; exact h2
theorem undrewT {V w : World} (h : Below V.drew.heap.size V.drew w) : Below V.heap.size V w := ((Below.refl V.heap.size V).drew).trans h
def AOwn (w : World) (base n : Nat) (v : Value) : Prop := ∃ xs, w.ownsRow base 50 6 v n xs
theorem wpList_append_aown {ops : Array Oper} {rest : List Oper} {o : Oper} {a : Act} {w : World} {Q : Exit -> Act -> World -> Prop} (hgd : o.guard = none) (s x : Operand)
  (ho : o.op = .call { callee := .builtin .append, args := #[s, x], argTypes := #[44, 44] })
  (base : Nat) (v : Value) (n : Nat) (hs : a.eval s = v) (w0 : World) (hown : AOwn w0 base n v) (q : TokL) (T : TypeId) (hw : w = w0.alloc (.cells (tokC q).toArray T))
  (hx : a.eval x = .slice (some ⟨w0.heap.size, 0, none⟩) 1 1) (hl : n <= 8388608) (hbase : base <= w0.heap.size)
  (h : ∀ v' w', AOwn w' base (n + 1) v' -> w0.grownBy w' v.ownBlock -> (v'.ownBlock = v.ownBlock \/ ∃ k, v'.ownBlock = some k /\ w0.heap.size <= k) -> wpList Tryz.prog ops Q rest (a.put o.dst v') w') : wpList Tryz.prog ops Q (o :: rest) a w := by
 subst hw
 obtain ⟨xs, hown⟩ := hown
 obtain ⟨i0, hi, hz0, hz1, hz2⟩ := info_parts infoT
 refine wpList_append_own_at (P := Tryz.prog) _ hgd s x 44 ho base 50 i0 _ 6 72 Tryz.underlying44 hi hz0 hz1 hz2 rfl (by decide) v n xs hs (World.ownsRow.alloc hown _)
  ⟨w0.heap.size, 0, none⟩ 1 1 (tokC q) hx rfl (cell_row w0 (tokC q) T) (oneCell_tok q) (by unfold maxLen; omega) (by omega) (by simp; omega) ?_
 intro v' w' h1 h2 _ h4
 refine h v' w' ⟨_, h1⟩ (grownR_trans (World.grownBy_alloc w0 _ _) h2) ?_
 rcases h4 with h4 | h4
 ·exact .inl h4
 ·exact .inr ⟨_, h4, by simp⟩
set_option maxHeartbeats 6400000 in
theorem lexTokens_walk (s : List UInt8) (w : World) (hl : s.length <= 1048576) (hT : TabAt w) (hM : MaxAt w) (hE : ErrType w) :
  Calls Tryz.prog 9 #[.string (B s)] w fun e w' => e = .returned (.bool true) /\ Below w.heap.size w w' := by
 have A1 := hid (lexAll_t s w (by omega) hT hM)
 have A2 := hid (fun (u : World) (hu : Below w.heap.size w u) => lexAll_t s u (by omega) (hT.below hu) (hM.below hu))
 have RT := hid (fun (u : World) => refTokens10_l s u hl)
 have HER : Hid (∀ u, Below w.heap.size w u -> ErrType u) := hid (fun u hu => hE.below hu)
 have hw := wrong_pos s
 have hfw := flt_wrong (allR s).2
 have hfew := ends_few s
 have HLR : Hid (allL s = if (allR s).2 = none then (allR s).1 else []) := hid rfl
 have HN0 : Hid ((allR s).2 = none -> wrongN (allR s).2 = 0) := hid (fun e => by rw [e]; rfl)
 clear hT hM hE
 have RT := hid (show ∀ (u : World), Calls Tryz.prog 29 #[.string (B s)] u fun e w' => (∃ v, e = .returned (.tuple #[v, .agg #[.int .i64 (wrongP (allR s).2), .int .i64 (wrongN (allR s).2)]]) /\ TOwn u.heap.size v (allR s).1 w') /\ Below u.heap.size u w' from RT.out)
 have HWR : Hid ((allR s).2 = none \/ (allR s).2 ≠ none /\ wrongN (allR s).2 ≠ 0) := hid (by
  by_cases h : (allR s).2 = none
  ·exact .inl h
  ·exact .inr ⟨h, hw h⟩)
 clear hw
 generalize wrongP (allR s).2 = P at *
 generalize wrongN (allR s).2 = N at *
 generalize (allR s).2 = q at *
 generalize (allR s).1 = L0 at *
 generalize allL s = L at *
 go_enter Tryz.func9, Tryz.ntmps9
 go_upto_region 4 with (first | (go_at_call 18; (with_reducible refine A1.out.mono ?_); rintro e w1 ⟨v1, ev, rfl, ho1, he1, hb1⟩; have HO1 := hid ho1; have HE1 := hid he1; have HB1 := hid hb1; clear ho1 he1 hb1) | (go_at_call 18; (with_reducible refine (A2.out _ HB1.out).mono ?_); rintro e w2 ⟨v2, ev2, rfl, ho2, _, hb2⟩; have HO2 := hid ho2; have HB2 := hid hb2; clear ho2 hb2) | (go_at_call 29; (with_reducible refine (RT.out _).mono ?_); rintro e w3 ⟨⟨v3, rfl, ho3⟩, hb3⟩; have HO3 := hid ho3; have HB3 := hid hb3; clear ho3 hb3))
 obtain ⟨V, hV⟩ : ∃ V, w3.alloc (.cells #[.int .i64 P, .int .i64 N] 64) = V := ⟨_, rfl⟩
 rw [hV]
 have hb : Below w3.heap.size w3 V := by rw [<- hV]; exact (Below.refl _ _).alloc (Nat.le_refl _) _
 have HRF : Hid (RowAt V w3.heap.size [.int .i64 P, .int .i64 N]) := hid (by rw [<- hV]; exact rowAt_of_heap (heap_alloc_new w3 _))
 have s1 := HB1.out.size
 have s2 := HB2.out.size
 have s3 := HB3.out.size
 have b23 : Below w2.heap.size w2 V := HB3.out.trans (hb.mono s3)
 have b13 : Below w1.heap.size w1 V := HB2.out.trans (b23.mono s2)
 have HB := hid (HB1.out.trans (b13.mono s1))
 have O1 := hid (tok_below HO1.out b13)
 have O2 := hid (tok_below HO2.out b23)
 have O3 := hid (tok_below HO3.out hb)
 have HE := hid (HE1.out.below b13)
 have A1 : Hid (∀ k, v1.ownBlock = some k -> k < w1.heap.size) := hid (fun k hk => (tok_base HO1.out k hk).2)
 have A2 : Hid (∀ k, v2.ownBlock = some k -> k < w2.heap.size) := hid (fun k hk => (tok_base HO2.out k hk).2)
 clear hV hb b23 b13 HO1 HO2 HO3 HE1 HB1 HB2 HB3 RT
 generalize w3.heap.size = g at *
 obtain ⟨d0, d1, _, _⟩ := two_of HRF.out
 go_upto_if 28 with fail
 go_cut [7] from 26 to 28 (fun x7 wx => Hid (TOwn w2.heap.size x7 L V) /\ V = wx)
 case first =>
  rcases HWR.out with h | ⟨h, h0⟩
  ·have n0 : (N != 0) = false := by rw [HN0.out h]; rfl
   have HLL : L = L0 := by rw [HLR.out, if_pos h]
   clear HN0 HLR HWR h
   go_wp2_with fail
   go_meet
   exact ⟨by rw [HLL]; exact O3, rfl⟩
  ·have n0 : (N != 0) = true := bne_iff_ne.2 h0
   have HLL : L = [] := by rw [HLR.out, if_neg h]
   clear HN0 HLR HWR h h0
   go_wp2_with fail
   go_meet
   exact ⟨by rw [HLL]; exact hid (TOwn.nil _ _), rfl⟩
 case rest =>
  obtain ⟨OW, rfl⟩ := hcut
  clear O3
  have hL : L.length <= 1048576 := by
   rw [HLR.out]
   split
   ·omega
   ·simp
  have C1 := fault10_t (allX q) ev V.drew (HER.out V HB.out) HE.out
  rw [hfw] at C1
  replace C1 := hid C1
  have S1 := hid (fun (u : World) (hu : Below V.heap.size V u) => sameTokens_l L v1 u7 u ((TOwn.view O1.out).below hu) ((TOwn.view OW.out).below hu) (by omega))
  have S2 := hid (fun (u : World) (hu : Below V.heap.size V u) => sameTokens_l L v2 u7 u ((TOwn.view O2.out).below hu) ((TOwn.view OW.out).below hu) (by omega))
  clear HLR HN0 HWR hfw hfew HE HER
  go_upto_region 6 with fail
  go_cut [44] from 29 to 44 (fun x44 wx => x44 = .bool false /\ Hid (Below V.heap.size V wx))
  case first =>
   go_region_with (first | (go_at_call 27; (with_reducible refine C1.out.mono ?_); rintro ev w5 ⟨rfl, hb⟩; have HB5 := hid (undrewT hb); obtain ⟨d2, d3, _, _⟩ := two_of (RowAt.below HRF.out HB5.out HRF.out.inside); clear hb) | (go_at_call 21; (with_reducible refine (S1.out _ HB5.out).mono ?_); rintro ev w6 ⟨rfl, n6, rfl⟩) | (go_at_call 21; (refine (S2.out _ (below_drewN_h HB5.out n6)).mono ?_); rintro ev w7 ⟨rfl, n7, rfl⟩))
   all_goals (go_wp2_with fail)
   all_goals go_meet
   all_goals exact ⟨rfl, hid (below_drewN_h HB5.out _)⟩
  case rest =>
   obtain ⟨rfl, HBX⟩ := hcut
   have P1 := hid (tok_below O1.out HBX.out)
   have P2 := hid (tok_below O2.out HBX.out)
   have P3 := hid (tok_below OW.out HBX.out)
   have HBW := hid (HB.out.trans (HBX.out.mono HB.out.size))
   clear O1 O2 OW HBX HB S1 S2 C1 HRF d0 d1
   obtain ⟨va, vc, rfl, hvc, _⟩ := TOwn.view P1.out
   have hap : ∀ k, (Value.slice va L.length vc).ownBlock = some k -> some k ≠ v2.ownBlock /\ some k ≠ u7.ownBlock := fun k hk => ⟨fun e => by have := A1.out k hk; have := (tok_base P2.out k e.symm).1; omega, fun e => by have := A1.out k hk; have := (tok_base P3.out k e.symm).1; omega⟩
   have HAP := hid hap
   clear hap A1 A2
   go_wp2_with fail
   go_loopw [9] (fun z wr => ∃ i : Nat, z = .int .i64 i /\ i <= L.length /\ Hid (AOwn wr w.heap.size L.length (.slice va L.length vc)) /\ Hid (TOwn w1.heap.size v2 L wr) /\ Hid (TOwn w2.heap.size u7 L wr) /\ Hid (Below w.heap.size w wr)) (fun z _ => L.length - (intOf z).toNat)
   case atStart => exact ⟨0, rfl, Nat.zero_le _, hid ⟨_, P1.out⟩, P2, P3, HBW⟩
   case round =>
    obtain ⟨i, rfl, hi, QA, Q2, Q3, QB⟩ := hrel
    clear P1 P2 P3 HBW
    by_cases hlt : i < L.length
    ·have c1 : decide ((i : Int) < (L.length : Int)) = true := decide_eq_true (by omega)
     have c2 : decide (i < L.length) = true := decide_eq_true hlt
     have i0 : 0 <= (i : Int) := by omega
     have i1 : (i : Int) < (L.length : Int) := by omega
     have i2 : i < vc := by omega
     obtain ⟨xs, hxs⟩ := QA.out
     obtain ⟨gb, rfl⟩ : ∃ gb, va = some ⟨gb, 0, none⟩ := by
      rcases hxs.2 with ⟨_, h⟩ | ⟨g', cap', cur, h, _⟩
      ·omega
      ·cases h; exact ⟨g', rfl⟩
     have hc : ∀ j, j < 6 -> ∃ z, wr.cell? ⟨gb, i * 6 + j, none⟩ = some z := fun j hj => by
      have h1 := hxs.cellAt (i * 6 + j) (by omega)
      have h2 := hxs.1
      rw [h1, List.getElem?_eq_getElem (by omega)]
      exact ⟨_, rfl⟩
     have hf : ∀ j, wr.frozen? ⟨gb, i * 6 + j, none⟩ = false := fun j => hxs.frozenAt _
     obtain ⟨z0, y0⟩ := hc 0 (by omega)
     obtain ⟨z1, y1⟩ := hc 1 (by omega)
     obtain ⟨z2, y2⟩ := hc 2 (by omega)
     obtain ⟨z3, y3⟩ := hc 3 (by omega)
     obtain ⟨z4, y4⟩ := hc 4 (by omega)
     obtain ⟨z5, y5⟩ := hc 5 (by omega)
     have f0 := hf 0
     have f1 := hf 1
     have f2 := hf 2
     have f3 := hf 3
     have f4 := hf 4
     have f5 := hf 5
     simp only [Nat.add_zero] at y0 f0
     clear hc hf
     have HXS := hid hxs
     clear hxs
     go_wp2_with fail
     go_roundw
     case rel =>
      obtain ⟨h0, k0⟩ := HXS.out.stored (i * 6) (.int .i64 99)
      obtain ⟨h1, k1⟩ := h0.stored (i * 6 + 1) (.string ⟨#[]⟩)
      obtain ⟨h2, k2⟩ := h1.stored (i * 6 + 2) (.string ⟨#[]⟩)
      obtain ⟨h3, k3⟩ := h2.stored (i * 6 + 3) (.string ⟨#[]⟩)
      obtain ⟨h4, k4⟩ := h3.stored (i * 6 + 4) (.int .i64 0)
      obtain ⟨h5, k5⟩ := h4.stored (i * 6 + 5) (.int .i64 0)
      have kk := grownR_trans (grownR_trans (grownR_trans (grownR_trans (grownR_trans k0 k1) k2) k3) k4) k5
      have hg := HAP.out gb rfl
      exact ⟨i + 1, by go_num, by omega, hid ⟨_, h5⟩, hid (tok_grown Q2.out kk (fun k hk e => hg.1 (by rw [hk, e]))), hid (tok_grown Q3.out kk (fun k hk e => hg.2 (by rw [hk, e]))), hid (QB.out.grown kk QB.out.size (fun k e => by have := (HXS.out.lt gb rfl).1; have := Option.some.inj e; omega))⟩
     case measure => simp [intOf]; omega
    ·have c1 : decide ((i : Int) < (L.length : Int)) = false := decide_eq_false (by omega)
     have c2 : decide (i < L.length) = false := decide_eq_false hlt
     have HQ : Hid (∀ k, (Value.slice va L.length vc).ownBlock = some k -> some k ≠ v2.ownBlock /\ some k ≠ u7.ownBlock) := HAP
     clear hi hvc HAP
     go_wp2_with fail
     go_loopw [3, 10] (fun a z wr => ∃ j : Nat, z = .int .i64 j /\ j <= 20 /\ Hid (AOwn wr w.heap.size (L.length + j) a) /\ Hid (∀ k, a.ownBlock = some k -> some k ≠ v2.ownBlock /\ some k ≠ u7.ownBlock) /\ Hid (TOwn w1.heap.size v2 L wr) /\ Hid (TOwn w2.heap.size u7 L wr) /\ Hid (Below w.heap.size w wr)) (fun _ z _ => 20 - (intOf z).toNat)
     case atStart => exact ⟨0, rfl, by omega, QA, HQ, Q2, Q3, QB⟩
     case round =>
      obtain ⟨j, rfl, hj, RA, RN, R2, R3, RB⟩ := hrel
      clear QA HQ Q2 Q3 QB c1 c2
      have hsz := RB.out.size
      by_cases hjl : j < 20
      ·have c1 : decide ((j : Int) < 20) = true := decide_eq_true (by omega)
       have c2 : decide (j < 20) = true := decide_eq_true hjl
       go_wp2_with (at_builtin; refine wpList_append_aown rfl (.tmp 59) (.tmp 61) rfl w.heap.size u3 (L.length + j) rfl wr RA.out ⟨98, [], [], [], 0, 0⟩ 50 rfl rfl (by omega) (by omega) ?_; intro v6 w6 ho6 hg6 hx6; have HO6 := hid ho6; have HG6 := hid hg6; have HX6 := hid hx6; clear ho6 hg6 hx6)
       go_roundw
       case rel =>
        have hk2 : ∀ k, v2.ownBlock = some k -> some k ≠ u3.ownBlock := fun k hk e => (RN.out k e.symm).1 hk.symm
        have hk3 : ∀ k, u7.ownBlock = some k -> some k ≠ u3.ownBlock := fun k hk e => (RN.out k e.symm).2 hk.symm
        refine ⟨j + 1, by go_num, by omega, HO6, hid (fun k hk => ?_), hid (tok_grown R2.out HG6.out hk2), hid (tok_grown R3.out HG6.out hk3), hid (RB.out.grown HG6.out RB.out.size (fun k e => by obtain ⟨xs, hxs⟩ := RA.out; exact (hxs.lt k e).1))⟩
        rcases HX6.out with h | ⟨k2, h, h2⟩
        ·exact RN.out k (by rw [<- h]; exact hk)
        ·rw [h] at hk
         have hk := Option.some.inj hk
         exact ⟨fun e => by have := (tok_base R2.out k e.symm).2; omega, fun e => by have := (tok_base R3.out k e.symm).2; omega⟩
       case measure => simp [intOf]; omega
      ·have c1 : decide ((j : Int) < 20) = false := decide_eq_false (by omega)
       have c2 : decide (j < 20) = false := decide_eq_false hjl
       have S2 := hid (sameTokens_l L v2 u7 _ (TOwn.view R2.out) (TOwn.view R3.out) (by omega))
       go_wp2_with (go_at_call 21; (with_reducible refine S2.out.mono ?_); rintro ev w7 ⟨rfl, n7, rfl⟩)
       go_ret
       exact ⟨rfl, below_drewN_h RB.out _⟩
end Go.Proofs.YtdhmpakhdhdebaaGreatDoor
