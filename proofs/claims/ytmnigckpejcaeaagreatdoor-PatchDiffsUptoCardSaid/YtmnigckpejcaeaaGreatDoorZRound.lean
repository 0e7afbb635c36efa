/-
  A region that draws its order within a round of a range over a function: walked once, in the order of the text, where its operations only read. Blocks of several cells that a loop over an iterator keeps. No program in sight. By an AI agent.
-/
import Derived.RangeFuncNested
import Derived.RangeFuncBound
import Derived.RangeFuncCalls
import Derived.RangeFuncLeaves
import Derived.Shelf.Abstract
import Derived.Shelf.RegionOpen
import Derived.WalkKit
import Derived.OwnWalkIn
import Derived.TacticsInMore
import Derived.LoopNIn
import Derived.LoopIn
import Derived.Sort.BigQuietIn
import Derived.Lib.Hide
import Derived.Test.YtmnigckpejcaeaaGreatDoorZEach
import Derived.Test.YtmnigckpejcaeaaGreatDoorZLoose0
import Derived.Test.YtmnigckpejcaeaaGreatDoorZAs
import Derived.Test.YtmnigckpejcaeaaGreatDoorZSets
import Derived.Laws.EntriesVeiled
namespace Go.Proofs.YtmnigckpejcaeaaGreatDoor
open Go.RowKit Go.Shelf
set_option maxRecDepth 100000
section
variable {G : Fence} {n : Nat} {P : Program} {ops : Array Oper} {l : Nat}
end
def BoxN (W : World) (B : Nat) (t : TypeId) (cs : Array Value) : Prop := W.heap[B]? = some (.cells cs t (0, 0))
theorem BoxN.lt {W : World} {B : Nat} {t : TypeId} {cs : Array Value} (h : BoxN W B t cs) : B < W.heap.size := (Array.getElem?_eq_some_iff.1 h).1
theorem BoxN.cell {W : World} {B : Nat} {t : TypeId} {cs : Array Value} (h : BoxN W B t cs) (j : Nat) (v : Value) (hj : cs[j]? = some v) : W.cell? ⟨B, j, none⟩ = some v := by simp [World.cell?, show W.heap[B]? = _ from h, hj]
theorem BoxN.kept {W W' : World} {row : Option Nat} {B : Nat} {t : TypeId} {cs : Array Value} (h : BoxN W B t cs) (hg : W.grownBy W' row) (hne : some B ≠ row) : BoxN W' B t cs := (hg.block B h.lt hne).trans h
theorem BoxN.below {W W' : World} {n B : Nat} {t : TypeId} {cs : Array Value} (h : BoxN W B t cs) (hb : Below n W W') (hB : B < n) : BoxN W' B t cs := (hb.block B hB).trans h
theorem BoxN.new (W : World) (t : TypeId) (cs : Array Value) : BoxN (W.alloc (.cells cs t)) W.heap.size t cs := World.alloc_heap_new W _
theorem BoxN.alloc {W : World} {B : Nat} {t : TypeId} {cs : Array Value} (h : BoxN W B t cs) (o : Obj) : BoxN (W.alloc o) B t cs := h.kept (World.grownBy_alloc W o none) (by simp)
theorem boxN_own {β : Type} (B : Nat) (t : TypeId) (f : β -> Array Value) : Own (fun s W => BoxN W B t (f s)) := fun s X Y row hs hg hrow =>
 hs.kept hg (fun e' => by obtain ⟨o, ho, hc⟩ := hrow B e'.symm; rw [show X.heap[B]? = _ from hs] at ho; cases ho; cases hc)
end Go.Proofs.YtmnigckpejcaeaaGreatDoor
namespace Go.Proofs.YtmnigckpejcaeaaGreatDoor
open Go.RowKit Go.Shelf
set_option maxRecDepth 100000
attribute [local go_sem] Oper.semAt_some
set_option maxHeartbeats 4000000 in
theorem each1M_in (F : Fence) (n : Nat) (h6 : F.fn 43) (hro : F.round = none) (hn : 1 <= n) (l Bn n₀ : Nat) (p : PatchL) (mv pv : Value) (J Jx : List (Bool × QuadL) -> World -> Prop) (W : World) (hJ : AbidesFrom W.heap.size J) (hn₀ : n₀ <= W.heap.size)
   (hY : ∀ pre x W1, J pre W1 -> pre.length < (walkL p).length -> x ∈ walkL p -> YieldAt F (n - 1) Tryz.prog l (encW x) W1 fun e W' =>
     (e = .returned (.bool true) /\ J (pre ++ [x]) W' /\ Below n₀ W1 W') \/ (e = .returned (.bool false) /\ Jx (pre ++ [x]) W'))
   (hc0 : W.cell? ⟨Bn, 0, none⟩ = some mv) (hc1 : W.cell? ⟨Bn, 1, none⟩ = some pv) (hv : ∀ W', Below n₀ W W' -> QView W' mv p.minus /\ QView W' pv p.plus) (hl : p.minus.length <= 4611686018427387904 /\ p.plus.length <= 4611686018427387904) (h0 : J [] W) :
   CallsIn F n Tryz.prog 43 #[.func (.yield l) #[] #[], .pointer (some ⟨Bn, 0, none⟩)] W fun e W' => (∃ v, e = .returned v) /\
     ((∃ ys, ys = walkL p /\ J ys W') \/ (∃ pre, pre <+: walkL p /\ Jx pre W')) := by
 obtain ⟨a0, c0, rfl, hm0, _⟩ := (hv W (Below.refl _ _)).1
 obtain ⟨a1, c1, rfl, hm1, _⟩ := (hv W (Below.refl _ _)).2
 have HV := Lib.hid hv
 have HL := Lib.hid hl
 clear hv hl
 have i0 : ∀ w, (Instr.index 91 (.agg #[.slice a0 p.minus.length c0, .slice a1 p.plus.length c1]) (.int .i64 0)).run Tryz.prog w = .ok (.slice a0 p.minus.length c0) w := fun _ => by kernel_rfl
 have i1 : ∀ w, (Instr.index 91 (.agg #[.slice a0 p.minus.length c0, .slice a1 p.plus.length c1]) (.int .i64 1)).run Tryz.prog w = .ok (.slice a1 p.plus.length c1) w := fun _ => by kernel_rfl
 refine callsIn_of_wp Tryz.func43 rfl h6 ?_ hro
 simp only [Tryz.ntmps43, List.size_toArray, List.length_cons, List.length_nil, Nat.reduceAdd, Nat.reduceSub, Array.replicate_succ, Array.replicate_zero, List.push_toArray, List.append_toArray, List.nil_append, List.cons_append]
 gi_wp2
 gi_loopw [12] (fun i wr => ∃ k : Nat, k <= 2 /\ i = .int .i64 k /\ J ((walkL p).take (offE p k)) wr /\ Below n₀ W wr) (fun i _ => 2 - (intOf i).toNat)
 case atStart => exact ⟨0, by omega, rfl, by simpa [offE] using h0, Below.refl _ _⟩
 case round =>
   obtain ⟨i, hi, rfl, hJs, hnx⟩ := hrel
   by_cases h2 : i < 2
   · have key : ∃ (aa : Option Addr) (cc : Nat) (S : List QuadL) (bb : Bool), (∀ w, (Instr.index 91 (.agg #[.slice a0 p.minus.length c0, .slice a1 p.plus.length c1]) (.int .i64 (i : Int))).run Tryz.prog w = .ok (.slice aa S.length cc) w) /\
         (∀ k (hk : k < S.length), (walkL p).take (offE p i + (k + 1)) = (walkL p).take (offE p i + k) ++ [(bb, S[k])]) /\ (∀ W', Below n₀ W W' -> QView W' (.slice aa S.length cc) S) /\ offE p i + S.length = offE p (i + 1) /\ ((i : Int) == 1) = bb /\ S.length <= 4611686018427387904 /\ offE p (i + 1) <= (walkL p).length := by
       have h01 : i = 0 \/ i = 1 := by omega
       rcases h01 with rfl | rfl
       · exact ⟨a0, c0, p.minus, false, i0, fun k hk => walk_step0 p k hk, fun W' h => (HV.out W' h).1, by simp [offE], rfl, HL.out.1, by simp [offE, walkL_len]⟩
       · exact ⟨a1, c1, p.plus, true, i1, fun k hk => walk_step1 p k hk, fun W' h => (HV.out W' h).2, by simp [offE], rfl, HL.out.2, by simp [offE, walkL_len]⟩
     obtain ⟨aa, cc, S, bb, ix, hst, hvw, hoff, hbb, hSl, hall⟩ := key
     have HS := Lib.hid hst
     have HW := Lib.hid hvw
     have HO := Lib.hid hoff
     have HA := Lib.hid hall
     clear hst hvw hoff i0 i1 hall
     have q13 : decide ((i : Int) < 2) = true := decide_eq_true (by omega)
     obtain ⟨wo, rfl⟩ : ∃ wo : World, wo = wr := ⟨_, rfl⟩
     gi_wp2
     gi_loopw [18] (fun v wr => ∃ k : Nat, k <= S.length /\ v = .int .i64 k /\ J ((walkL p).take (offE p i + k)) wr /\ Below n₀ W wr) (fun v _ => S.length - (intOf v).toNat)
     case atStart => exact ⟨0, by omega, rfl, hJs, hnx⟩
     case round =>
       obtain ⟨k, hk, rfl, hJk, hnk⟩ := hrel
       by_cases hlt : k < S.length
       · obtain ⟨_, _, hee, _, hq⟩ := HW.out wr hnk
         cases hee
         obtain ⟨b, o, rfl⟩ := hq.place (by omega)
         have r1 := hq.get hlt
         have HX := HS.out k hlt
         obtain ⟨x, hx⟩ : ∃ x, S[k] = x := ⟨_, rfl⟩
         rw [hx] at r1 HX
         obtain ⟨d0, d1, d2, d3, d4, d5, d6, d7, d8, d9, d10, d11, d12, d13, d14, d15⟩ := cells16 r1
         have hn₀0 : n₀ <= wr.heap.size := Nat.le_trans hn₀ hnk.size
         obtain ⟨fn, tmps, assign, body, hy, hR⟩ := hY _ (bb, x) (wr.alloc (.cells #[.int .i64 x.s.kind, .string (B x.s.text), .string (B x.s.type), .string (B x.s.lang), .int .i64 x.p.kind, .string (B x.p.text), .string (B x.p.type), .string (B x.p.lang), .int .i64 x.o.kind, .string (B x.o.text), .string (B x.o.type), .string (B x.o.lang), .int .i64 x.g.kind, .string (B x.g.text), .string (B x.g.type), .string (B x.g.lang)] 56)) (hJ _ _ _ none hJk (World.grownBy_alloc _ _ none) (by simp)) (by
           have h1 := HA.out
           have h2 := HO.out
           rw [List.length_take]
           omega) (List.mem_of_mem_take (i := offE p i + (k + 1)) (by rw [HX]; simp))
         dsimp only [encW, qvE] at hy
         have HX2 := Lib.hid HX
         have HB := Lib.hid hnk
         clear r1 hx HX hnk hq
         gi_wp2
         refine hR.mono ?_
         rintro e W3 (⟨rfl, hJ3, hk3⟩ | ⟨rfl, hJx3⟩)
         · have HB3 := Lib.hid ((HB.out.alloc hn₀0 (.cells #[.int .i64 x.s.kind, .string (B x.s.text), .string (B x.s.type), .string (B x.s.lang), .int .i64 x.p.kind, .string (B x.p.text), .string (B x.p.type), .string (B x.p.lang), .int .i64 x.o.kind, .string (B x.o.text), .string (B x.o.type), .string (B x.o.lang), .int .i64 x.g.kind, .string (B x.g.text), .string (B x.g.type), .string (B x.g.lang)] 56)).trans hk3)
           clear hk3
           gi_wp2
           go_roundw
           case rel => exact ⟨k + 1, hlt, by go_num, by rw [HX2.out]; exact hJ3, HB3.out⟩
           case measure => simp [intOf]; omega
         · gi_wp2
           refine bodyPost_ret (results_none rfl _ _ _) rfl ?_
           exact ⟨⟨_, rfl⟩, .inr ⟨_, by rw [<- HX2.out]; exact List.take_prefix _ _, hJx3⟩⟩
       · obtain rfl : k = S.length := by omega
         have HB := Lib.hid hnk
         clear hnk
         gi_wp2
         go_roundw
         case rel => exact ⟨i + 1, by omega, by go_num, by rw [<- HO.out]; exact hJk, HB.out⟩
         case measure => simp [intOf]; omega
   · obtain rfl : i = 2 := by omega
     gi_wp2
     go_end0
     exact ⟨⟨_, rfl⟩, .inl ⟨_, rfl, by
       have := hJs
       rwa [List.take_of_length_le (by rw [walkL_len]; simp [offE])] at this⟩⟩
abbrev OfPatch (p : PatchL) := { x : Bool × QuadL // x ∈ walkL p }
theorem each_stopsM (F : Fence) (n : Nat) (h6 : F.fn 43) (hro : F.round = none) (hn : 1 <= n) (Bn n₀ : Nat) (p : PatchL) (mv pv : Value) (w : World) (hB : Bn < w.heap.size) (hn₀ : n₀ <= w.heap.size)
   (hc0 : w.cell? ⟨Bn, 0, none⟩ = some mv) (hc1 : w.cell? ⟨Bn, 1, none⟩ = some pv) (hv : ∀ W', Below n₀ w W' -> QView W' mv p.minus /\ QView W' pv p.plus) (hl : p.minus.length <= 4611686018427387904 /\ p.plus.length <= 4611686018427387904) :
   SeqStopsK F n Tryz.prog 43 #[.pointer (some ⟨Bn, 0, none⟩)] (fun x : OfPatch p => encW x.1) (Below n₀) (fun ys => ys.map (·.1) = walkL p) (fun pre => pre.map (·.1) <+: walkL p) (walkL p).length w := fun l J Jx W hW hJ _ hY h0 =>
 (each1M_in F n h6 hro hn l Bn n₀ p mv pv (fun ys U => ∃ zs : List (OfPatch p), zs.map (·.1) = ys /\ J zs U) (fun ys U => ∃ zs : List (OfPatch p), zs.map (·.1) = ys /\ Jx zs U) W
   (fun s U U' row ⟨zs, hz, hj⟩ hg hr => ⟨zs, hz, hJ zs U U' row hj hg hr⟩) (Nat.le_trans hn₀ hW.size)
   (fun pre x W1 ⟨zs, hz, hj⟩ hlt hm => (hY zs ⟨x, hm⟩ W1 hj (by rw [<- hz, List.length_map] at hlt; exact hlt)).mono (fun e W' h => by
     rcases h with ⟨h1, h2, h3⟩ | ⟨h1, h2⟩
     · exact .inl ⟨h1, ⟨zs ++ [⟨x, hm⟩], by rw [List.map_append, hz]; rfl, h2⟩, h3⟩
     · exact .inr ⟨h1, ⟨zs ++ [⟨x, hm⟩], by rw [List.map_append, hz]; rfl, h2⟩⟩))
   ((hW.cell (p := ⟨Bn, 0, none⟩) hB).trans hc0) ((hW.cell (p := ⟨Bn, 1, none⟩) hB).trans hc1) (fun W' h => hv W' ((hW.mono hn₀).trans h)) hl ⟨[], rfl, h0⟩).mono (fun e W' h => by
     refine ⟨h.1, ?_⟩
     rcases h.2 with ⟨ys, rfl, zs, hz, hj⟩ | ⟨pre, hp, zs, hz, hj⟩
     · exact .inl ⟨zs, hz, hj⟩
     · exact .inr ⟨zs, (by show zs.map (·.1) <+: walkL p; rw [hz]; exact hp), hj⟩)
end Go.Proofs.YtmnigckpejcaeaaGreatDoor
namespace Go.Proofs.YtmnigckpejcaeaaGreatDoor
open Go.RowKit Go.Shelf
set_option maxRecDepth 1000000
attribute [local go_sem] Oper.semAt_some
theorem wpListIn_app_str {F : Fence} {n : Nat} {ops : Array Oper} {rest : List Oper} {o : Oper} {a : Act} {w : World} {Q : Exit -> Act -> World -> Prop} (hgd : o.guard = none) (s x : Operand)
   (ho : o.op = .call { callee := .builtin .append, args := #[s, x], argTypes := #[27, 9] }) (base : Nat) (v : Value) (l m : List UInt8) (hs : a.eval s = v) (h : BOwn base v l w)
   (hx : a.eval x = .string (B m)) (hlen : l.length + m.length <= 140737488355328) (hbase : base <= w.heap.size)
   (k : ∀ v' w', BOwn base v' (l ++ m) w' -> w.grownBy w' v.ownBlock -> wpListIn F n Tryz.prog ops Q rest (a.put o.dst v') w') : wpListIn F n Tryz.prog ops Q (o :: rest) a w := by
 obtain ⟨i0, hi, hz0, hz1, hz2⟩ := info_parts infoByte
 refine wpListIn_plain hgd fun K hK => ?_
 obtain ⟨v', w', hr, h2, h3, _⟩ := Lib.run_append_own_string (P := Tryz.prog) w base 27 9 o.type 5 i0 Tryz.underlying27 Tryz.underlying9 hi hz0 hz1 hz2 v l.length (l.map U8) h (B m) (by rw [B_size]; unfold maxLen; omega) (by rw [B_size]; exact hlen) hbase
 unfold Oper.wpIn
 refine ⟨by simp [Oper.about, ho, resolve, Target.leads, Sem.run_pure], ?_⟩
 rw [Oper.semAt_plain F _ _ (by rw [ho]; intro c hc'; cases hc')]
 simp [execOp, ho, resolve, invoke, builtin, hs, hx, hr, Result.andThen]
 refine hK _ _ (k v' w' ?_ h3)
 rw [strCells_l, B_size] at h2
 unfold BOwn
 rw [List.length_append, List.map_append]
 exact h2
structure PrG (r g3 g4 g5 g7 n1 : Nat) : Prop where
 a : r <= g3
 b : g3 < g4
 c : g4 < g5
 d : g5 < g7
 e : g7 < n1
structure PrIn (w : World) (most : Int) (g3 g4 g5 g7 n1 : Nat) (pre : List (Bool × QuadL)) (v : Value) (W : World) : Prop where
 b3 : Boxed W g3 3 (.int .i64 most)
 b4 : Boxed W g4 27 (.slice none 0 0)
 b5 : Boxed W g5 28 (.int .i64 0)
 b7 : Boxed W g7 27 v
 ov : BOwn n1 v (textW pre) W
 mx : pre = [] \/ ((textW pre).length : Int) <= most
 lt : n1 <= W.heap.size
 bw : Below w.heap.size w W
def PrI (w : World) (most : Int) (g3 g4 g5 g7 n1 : Nat) (pre : List (Bool × QuadL)) (W : World) : Prop := ∃ v, PrIn w most g3 g4 g5 g7 n1 pre v W
def PrX (w : World) (most : Int) (g4 g5 : Nat) (k : Code) (pre : List (Bool × QuadL)) (W : World) : Prop := k = .ret /\ most < ((textW pre).length : Int) /\ Boxed W g4 27 (.slice none 0 0) /\ Boxed W g5 28 (.int .i64 1) /\ Below w.heap.size w W
theorem PrIn.below {w : World} {most : Int} {g3 g4 g5 g7 n1 : Nat} {pre : List (Bool × QuadL)} {v : Value} {W W' : World} (h : PrIn w most g3 g4 g5 g7 n1 pre v W) (hb : Below W.heap.size W W') : PrIn w most g3 g4 g5 g7 n1 pre v W' :=
 ⟨boxed_below' h.b3 hb, boxed_below' h.b4 hb, boxed_below' h.b5 hb, boxed_below' h.b7 hb, h.ov.below hb, h.mx, Nat.le_trans h.lt hb.size, h.bw.trans (hb.mono h.bw.size)⟩
theorem prI_own (w : World) (most : Int) (g3 g4 g5 g7 n1 : Nat) (G : PrG w.heap.size g3 g4 g5 g7 n1) : OwnFrom n1 (PrI w most g3 g4 g5 g7 n1) := by
 obtain ⟨G1, G2, G3, G4, G5⟩ := G
 rintro pre X Y row ⟨v, h⟩ hg hr
 have hr2 : ∀ r, row = some r -> ∃ o : Obj, X.heap[r]? = some o /\ o.isCells = false := fun r e => (hr r e).2
 refine ⟨v, boxed_kept' h.b3 hg hr2, boxed_kept' h.b4 hg hr2, boxed_kept' h.b5 hg hr2, boxed_kept' h.b7 hg hr2, ?_, h.mx, Nat.le_trans h.lt hg.size, h.bw.grown hg h.bw.size (fun k e => by have := (hr _ e).1; omega)⟩
 refine ownsRow_grown h.ov hg (fun k hk e => ?_)
 obtain ⟨o, ho, hc⟩ := hr2 k e.symm
 have := own_cells h.ov k o hk ho
 rw [hc] at this; cases this
theorem prX_own (w : World) (most : Int) (g3 g4 g5 g7 n1 : Nat) (G : PrG w.heap.size g3 g4 g5 g7 n1) (k : Code) : OwnFrom n1 (PrX w most g4 g5 k) := by
 obtain ⟨G1, G2, G3, G4, G5⟩ := G
 rintro pre X Y row ⟨hk, h1, h2, h3, h5⟩ hg hr
 have hr2 : ∀ r, row = some r -> ∃ o : Obj, X.heap[r]? = some o /\ o.isCells = false := fun r e => (hr r e).2
 exact ⟨hk, h1, boxed_kept' h2 hg hr2, boxed_kept' h3 hg hr2, h5.grown hg h5.size (fun k e => by have := (hr _ e).1; omega)⟩
noncomputable def printBody : Code := ((rangePartsC ((Tryz.f7.body.bind firstRangeC).getD .skip)).getD (.skip, .skip)).2
theorem after_app {w W3 W4 : World} {most : Int} {g3 g4 g5 g7 n1 : Nat} {pre : List (Bool × QuadL)} {v v' : Value} {x : Bool × QuadL} (G : PrG w.heap.size g3 g4 g5 g7 n1) (h : PrIn w most g3 g4 g5 g7 n1 pre v W3) (_hO : BOwn n1 v' (textW (pre ++ [x])) W4) (hg : W3.grownBy W4 v.ownBlock) :
   Boxed W4 g3 3 (.int .i64 most) /\ Boxed W4 g4 27 (.slice none 0 0) /\ Boxed W4 g5 28 (.int .i64 0) /\ Boxed W4 g7 27 v /\ KeepsOthers W3 W4 /\ Below w.heap.size W3 W4 /\ n1 <= W4.heap.size := by
 obtain ⟨G1, G2, G3, G4, G5⟩ := G
 have hn := own_base h.ov
 have k : ∀ {g : Nat} {T : TypeId} {y : Value}, Boxed W3 g T y -> g < n1 -> Boxed W4 g T y := fun hb hlt => hb.kept hg (fun e => by have := hn _ e.symm; omega)
 exact ⟨k h.b3 (by omega), k h.b4 (by omega), k h.b5 (by omega), k h.b7 (by omega), KeepsOthers.of_grownBy hg (fun j o hj ho => own_cells h.ov j o hj ho), (Below.refl _ _).grown hg h.bw.size (fun k e => by have := hn k e; omega), Nat.le_trans h.lt hg.size⟩
theorem lineN_ok {q : QuadL} (h : quadN q = 0) : lineN q = (lineF q, 0) := by unfold lineN; rw [if_neg (by rw [h]; simp)]
set_option maxHeartbeats 2000000 in
theorem pround_fit (n : Nat) (hn : 3 <= n) (w : World) (p : PatchL) (ma pa : Option Addr) (mc pc : Nat) (most : Int) (g2 g3 g4 g5 g7 gE n1 : Nat) (G : PrG w.heap.size g3 g4 g5 g7 n1) (hT : TabAt w) (hM : MaxAt w) (lr : Nat) (pre : List (Bool × QuadL)) (x : Bool × QuadL) (v : Value) (W : World) (Bx : Nat) (P : PrIn w most g3 g4 g5 g7 n1 pre v W) (hX : BoxN W Bx 56 #[.int .i64 x.2.s.kind, .string (B x.2.s.text), .string (B x.2.s.type), .string (B x.2.s.lang), .int .i64 x.2.p.kind, .string (B x.2.p.text), .string (B x.2.p.type), .string (B x.2.p.lang), .int .i64 x.2.o.kind, .string (B x.2.o.text), .string (B x.2.o.type), .string (B x.2.o.lang), .int .i64 x.2.g.kind, .string (B x.2.g.text), .string (B x.2.g.type), .string (B x.2.g.lang)]) (hS : Short x.2) (hq : quadN x.2 = 0) (hbig : (textW pre).length <= 57174681255936) (hm : ((textW (pre ++ [x])).length : Int) <= most) :
   printBody.wpIn (Fence.wide.inRound lr) (n - 1 - 1) Tryz.prog (ownPostG n1 (Below w.heap.size) (PrI w most g3 g4 g5 g7 n1) (PrX w most g4 g5) (pre ++ [x]) W) { tmps := #[.agg #[.slice ma p.minus.length mc, .slice pa p.plus.length pc], .int .i64 most, .pointer (some ⟨g2, 0, none⟩), .pointer (some ⟨g3, 0, none⟩), .pointer (some ⟨g4, 0, none⟩), .pointer (some ⟨g5, 0, none⟩), .int .i64 0, .pointer (some ⟨g7, 0, none⟩), .bool x.1, .pointer (some ⟨Bx, 0, none⟩), undef, undef, undef, .agg #[.slice ma p.minus.length mc, .slice pa p.plus.length pc], .int .i64 0, .int .i64 0, .bool false, undef, .agg #[.slice ma p.minus.length mc, .slice pa p.plus.length pc], .func (.func 43) #[] #[.pointer (some ⟨gE, 0, none⟩)], .bool x.1, .agg #[.int .i64 x.2.s.kind, .string (B x.2.s.text), .string (B x.2.s.type), .string (B x.2.s.lang), .int .i64 x.2.p.kind, .string (B x.2.p.text), .string (B x.2.p.type), .string (B x.2.p.lang), .int .i64 x.2.o.kind, .string (B x.2.o.text), .string (B x.2.o.type), .string (B x.2.o.lang), .int .i64 x.2.g.kind, .string (B x.2.g.text), .string (B x.2.g.type), .string (B x.2.g.lang)], undef, undef, undef, undef, undef, undef, undef, undef, undef, undef, undef, undef, undef, undef, undef, undef, undef, undef, undef, undef], defers := [] } W := by
 obtain ⟨G1, G2, G3, G4, G5⟩ := G
 have GG : PrG w.heap.size g3 g4 g5 g7 n1 := ⟨G1, G2, G3, G4, G5⟩
 obtain ⟨xb, xq⟩ := x
 simp only at hX hS hq hm ⊢
 have lt := P.lt
 have hn1 : 1 <= n - 1 - 1 := by omega
 have TX0 := nqTextE_l xq W (hT.below P.bw) (hM.below P.bw) hS
 rw [lineN_ok hq] at TX0
 have TX := Lib.hid TX0
 have hle := lineF_le hS
 have CAT0 := cat_row (sgnC xb) (lineF xq)
 have hrw : textW (pre ++ [(xb, xq)]) = textW pre ++ ((sgnC xb :: 32 :: lineF xq) ++ [10]) := by rw [textW_snoc]; rfl
 have hrl : ((sgnC xb :: 32 :: lineF xq) ++ [10]).length <= 54526024 := by simp; omega
 obtain ⟨r, hr⟩ : ∃ r, ((sgnC xb :: 32 :: lineF xq) ++ [10]) = r := ⟨_, rfl⟩
 rw [hr] at CAT0 hrw hrl
 rw [hrw, List.length_append] at hm
 have HRW := Lib.hid hrw
 have PP := Lib.hid P
 have HXB := Lib.hid hX
 have hlB := hX.lt
 clear hr hrw TX0 P hX hT hM hS hq
 obtain ⟨vs, vn, rfl⟩ := PP.out.ov.slice
 cases xb with
 | true =>
   have CAT : ((⟨#[43, 32]⟩ : ByteArray) ++ B (lineF xq)) ++ (⟨#[10]⟩ : ByteArray) = B r := CAT0
   clear CAT0
   have d37 : decide (most < ((textW pre).length : Int) + (r.length : Int)) = false := decide_eq_false (by omega)
   have HMX : Hid (((textW pre ++ r).length : Int) <= most) := Lib.hid (by rw [List.length_append]; omega)
   clear hm
   conv => arg 4; whnf
   gi_wp2_with (first
     | (refine wpListIn_load_quad rfl (.tmp 9) rfl Bx 0 rfl xq (range_row (cs := quadC xq) HXB.out) ?_)
     | (refine ⟨trivial, ?_⟩; gi_at_call 24; refine (CallsIn.inRound lr (callsIn_wide.2 TX.out)).mono ?_; rintro e w3 ⟨rfl, hb3⟩; have P3 := Lib.hid (PP.out.below hb3); have B3 := Lib.hid hb3; have k7 := P3.out.b7.cell; have l7 := P3.out.b7.lt; have hs3 := P3.out.lt; clear hb3)
     | (gi_at_builtin; go_loud (refine wpListIn_app_str rfl (.tmp 28) (.tmp 32) rfl n1 _ (textW pre) r rfl P3.out.ov rfl (by omega) (by omega) ?_; intro v4 w4 hO4 hg4; have hO5 := hO4; rw [<- HRW.out] at hO5; have AF := after_app GG P3.out hO5 hg4; have A3 := AF.1; have A4 := AF.2.1; have A5 := AF.2.2.1; have A7 := AF.2.2.2.1; have AK := Lib.hid AF.2.2.2.2; clear AF hO5; clear k7 l7; have k7 := A7.cell; have f7 := A7.frozen; have l7 := A7.lt; have k3 := A3.cell; have l3 := A3.lt; have n37 : ¬ g3 = g7 := (by omega); have k4 := A4.cell; have f4 := A4.frozen; have l4 := A4.lt; have n47 : ¬ g4 = g7 := (by omega); have k5 := A5.cell; have f5 := A5.frozen; have l5 := A5.lt; have n57 : ¬ g5 = g7 := (by omega); have n54 : ¬ g5 = g4 := (by omega); have HA3 := Lib.hid A3; have HA4 := Lib.hid A4; have HA5 := Lib.hid A5; have HA7 := Lib.hid A7; have HO4 := Lib.hid hO4; obtain ⟨a4, n4, rfl⟩ := hO4.slice; clear A3 A4 A5 A7 hO4 hg4)))
   have K4 := ((keeps_below B3.out).trans AK.out.1).trans (KeepsOthers.setCell w4 ⟨g7, 0, none⟩ (.slice a4 (textW pre ++ r).length n4))
   have B4 := (B3.out.mono PP.out.bw.size).trans (AK.out.2.1.setCell (p := ⟨g7, 0, none⟩) (by show w.heap.size <= g7; omega) (.slice a4 (textW pre ++ r).length n4))
   simp only [List.length_append] at K4 B4
   refine ⟨K4.from _, B4, _, HA3.out.other (by omega) _, HA4.out.other (by omega) _, HA5.out.other (by omega) _, HA7.out.set _, ?_, .inr (by rw [HRW.out]; exact HMX.out), by simpa using AK.out.2.2, PP.out.bw.trans B4⟩
   have h := ownsRow_grown HO4.out (grownBy_setCell' w4 g7 (.slice a4 ((textW pre).length + r.length) n4)) (fun k hk e => by have h1 := own_base HO4.out k hk; have h2 := Option.some.inj e; omega)
   rw [HRW.out]
   unfold BOwn
   simpa using h
 | false =>
   have CAT : ((⟨#[45, 32]⟩ : ByteArray) ++ B (lineF xq)) ++ (⟨#[10]⟩ : ByteArray) = B r := CAT0
   clear CAT0
   have d37 : decide (most < ((textW pre).length : Int) + (r.length : Int)) = false := decide_eq_false (by omega)
   have HMX : Hid (((textW pre ++ r).length : Int) <= most) := Lib.hid (by rw [List.length_append]; omega)
   clear hm
   conv => arg 4; whnf
   gi_wp2_with (first
     | (refine wpListIn_load_quad rfl (.tmp 9) rfl Bx 0 rfl xq (range_row (cs := quadC xq) HXB.out) ?_)
     | (refine ⟨trivial, ?_⟩; gi_at_call 24; refine (CallsIn.inRound lr (callsIn_wide.2 TX.out)).mono ?_; rintro e w3 ⟨rfl, hb3⟩; have P3 := Lib.hid (PP.out.below hb3); have B3 := Lib.hid hb3; have k7 := P3.out.b7.cell; have l7 := P3.out.b7.lt; have hs3 := P3.out.lt; clear hb3)
     | (gi_at_builtin; go_loud (refine wpListIn_app_str rfl (.tmp 28) (.tmp 32) rfl n1 _ (textW pre) r rfl P3.out.ov rfl (by omega) (by omega) ?_; intro v4 w4 hO4 hg4; have hO5 := hO4; rw [<- HRW.out] at hO5; have AF := after_app GG P3.out hO5 hg4; have A3 := AF.1; have A4 := AF.2.1; have A5 := AF.2.2.1; have A7 := AF.2.2.2.1; have AK := Lib.hid AF.2.2.2.2; clear AF hO5; clear k7 l7; have k7 := A7.cell; have f7 := A7.frozen; have l7 := A7.lt; have k3 := A3.cell; have l3 := A3.lt; have n37 : ¬ g3 = g7 := (by omega); have k4 := A4.cell; have f4 := A4.frozen; have l4 := A4.lt; have n47 : ¬ g4 = g7 := (by omega); have k5 := A5.cell; have f5 := A5.frozen; have l5 := A5.lt; have n57 : ¬ g5 = g7 := (by omega); have n54 : ¬ g5 = g4 := (by omega); have HA3 := Lib.hid A3; have HA4 := Lib.hid A4; have HA5 := Lib.hid A5; have HA7 := Lib.hid A7; have HO4 := Lib.hid hO4; obtain ⟨a4, n4, rfl⟩ := hO4.slice; clear A3 A4 A5 A7 hO4 hg4)))
   have K4 := ((keeps_below B3.out).trans AK.out.1).trans (KeepsOthers.setCell w4 ⟨g7, 0, none⟩ (.slice a4 (textW pre ++ r).length n4))
   have B4 := (B3.out.mono PP.out.bw.size).trans (AK.out.2.1.setCell (p := ⟨g7, 0, none⟩) (by show w.heap.size <= g7; omega) (.slice a4 (textW pre ++ r).length n4))
   simp only [List.length_append] at K4 B4
   refine ⟨K4.from _, B4, _, HA3.out.other (by omega) _, HA4.out.other (by omega) _, HA5.out.other (by omega) _, HA7.out.set _, ?_, .inr (by rw [HRW.out]; exact HMX.out), by simpa using AK.out.2.2, PP.out.bw.trans B4⟩
   have h := ownsRow_grown HO4.out (grownBy_setCell' w4 g7 (.slice a4 ((textW pre).length + r.length) n4)) (fun k hk e => by have h1 := own_base HO4.out k hk; have h2 := Option.some.inj e; omega)
   rw [HRW.out]
   unfold BOwn
   simpa using h
set_option maxHeartbeats 2000000 in
theorem pround_big (n : Nat) (hn : 3 <= n) (w : World) (p : PatchL) (ma pa : Option Addr) (mc pc : Nat) (most : Int) (g2 g3 g4 g5 g7 gE n1 : Nat) (G : PrG w.heap.size g3 g4 g5 g7 n1) (hT : TabAt w) (hM : MaxAt w) (lr : Nat) (pre : List (Bool × QuadL)) (x : Bool × QuadL) (v : Value) (W : World) (Bx : Nat) (P : PrIn w most g3 g4 g5 g7 n1 pre v W) (hX : BoxN W Bx 56 #[.int .i64 x.2.s.kind, .string (B x.2.s.text), .string (B x.2.s.type), .string (B x.2.s.lang), .int .i64 x.2.p.kind, .string (B x.2.p.text), .string (B x.2.p.type), .string (B x.2.p.lang), .int .i64 x.2.o.kind, .string (B x.2.o.text), .string (B x.2.o.type), .string (B x.2.o.lang), .int .i64 x.2.g.kind, .string (B x.2.g.text), .string (B x.2.g.type), .string (B x.2.g.lang)]) (hS : Short x.2) (hq : quadN x.2 = 0) (hbig : (textW pre).length <= 57174681255936) (hm : most < ((textW (pre ++ [x])).length : Int)) :
   printBody.wpIn (Fence.wide.inRound lr) (n - 1 - 1) Tryz.prog (ownPostG n1 (Below w.heap.size) (PrI w most g3 g4 g5 g7 n1) (PrX w most g4 g5) (pre ++ [x]) W) { tmps := #[.agg #[.slice ma p.minus.length mc, .slice pa p.plus.length pc], .int .i64 most, .pointer (some ⟨g2, 0, none⟩), .pointer (some ⟨g3, 0, none⟩), .pointer (some ⟨g4, 0, none⟩), .pointer (some ⟨g5, 0, none⟩), .int .i64 0, .pointer (some ⟨g7, 0, none⟩), .bool x.1, .pointer (some ⟨Bx, 0, none⟩), undef, undef, undef, .agg #[.slice ma p.minus.length mc, .slice pa p.plus.length pc], .int .i64 0, .int .i64 0, .bool false, undef, .agg #[.slice ma p.minus.length mc, .slice pa p.plus.length pc], .func (.func 43) #[] #[.pointer (some ⟨gE, 0, none⟩)], .bool x.1, .agg #[.int .i64 x.2.s.kind, .string (B x.2.s.text), .string (B x.2.s.type), .string (B x.2.s.lang), .int .i64 x.2.p.kind, .string (B x.2.p.text), .string (B x.2.p.type), .string (B x.2.p.lang), .int .i64 x.2.o.kind, .string (B x.2.o.text), .string (B x.2.o.type), .string (B x.2.o.lang), .int .i64 x.2.g.kind, .string (B x.2.g.text), .string (B x.2.g.type), .string (B x.2.g.lang)], undef, undef, undef, undef, undef, undef, undef, undef, undef, undef, undef, undef, undef, undef, undef, undef, undef, undef, undef, undef], defers := [] } W := by
 obtain ⟨G1, G2, G3, G4, G5⟩ := G
 have GG : PrG w.heap.size g3 g4 g5 g7 n1 := ⟨G1, G2, G3, G4, G5⟩
 obtain ⟨xb, xq⟩ := x
 simp only at hX hS hq hm ⊢
 have lt := P.lt
 have hn1 : 1 <= n - 1 - 1 := by omega
 have TX0 := nqTextE_l xq W (hT.below P.bw) (hM.below P.bw) hS
 rw [lineN_ok hq] at TX0
 have TX := Lib.hid TX0
 have hle := lineF_le hS
 have CAT0 := cat_row (sgnC xb) (lineF xq)
 have hrw : textW (pre ++ [(xb, xq)]) = textW pre ++ ((sgnC xb :: 32 :: lineF xq) ++ [10]) := by rw [textW_snoc]; rfl
 have hrl : ((sgnC xb :: 32 :: lineF xq) ++ [10]).length <= 54526024 := by simp; omega
 obtain ⟨r, hr⟩ : ∃ r, ((sgnC xb :: 32 :: lineF xq) ++ [10]) = r := ⟨_, rfl⟩
 rw [hr] at CAT0 hrw hrl
 rw [hrw, List.length_append] at hm
 have HRW := Lib.hid hrw
 have PP := Lib.hid P
 have HXB := Lib.hid hX
 have hlB := hX.lt
 clear hr hrw TX0 P hX hT hM hS hq
 obtain ⟨vs, vn, rfl⟩ := PP.out.ov.slice
 cases xb with
 | true =>
   have CAT : ((⟨#[43, 32]⟩ : ByteArray) ++ B (lineF xq)) ++ (⟨#[10]⟩ : ByteArray) = B r := CAT0
   clear CAT0
   have d37 : decide (most < ((textW pre).length : Int) + (r.length : Int)) = true := decide_eq_true (by omega)
   have HMX : Hid (most < ((textW pre ++ r).length : Int)) := Lib.hid (by rw [List.length_append]; omega)
   clear hm
   conv => arg 4; whnf
   gi_wp2_with (first
     | (refine wpListIn_load_quad rfl (.tmp 9) rfl Bx 0 rfl xq (range_row (cs := quadC xq) HXB.out) ?_)
     | (refine ⟨trivial, ?_⟩; gi_at_call 24; refine (CallsIn.inRound lr (callsIn_wide.2 TX.out)).mono ?_; rintro e w3 ⟨rfl, hb3⟩; have P3 := Lib.hid (PP.out.below hb3); have B3 := Lib.hid hb3; have k7 := P3.out.b7.cell; have l7 := P3.out.b7.lt; have hs3 := P3.out.lt; clear hb3)
     | (gi_at_builtin; go_loud (refine wpListIn_app_str rfl (.tmp 28) (.tmp 32) rfl n1 _ (textW pre) r rfl P3.out.ov rfl (by omega) (by omega) ?_; intro v4 w4 hO4 hg4; have hO5 := hO4; rw [<- HRW.out] at hO5; have AF := after_app GG P3.out hO5 hg4; have A3 := AF.1; have A4 := AF.2.1; have A5 := AF.2.2.1; have A7 := AF.2.2.2.1; have AK := Lib.hid AF.2.2.2.2; clear AF hO5; clear k7 l7; have k7 := A7.cell; have f7 := A7.frozen; have l7 := A7.lt; have k3 := A3.cell; have l3 := A3.lt; have n37 : ¬ g3 = g7 := (by omega); have k4 := A4.cell; have f4 := A4.frozen; have l4 := A4.lt; have n47 : ¬ g4 = g7 := (by omega); have k5 := A5.cell; have f5 := A5.frozen; have l5 := A5.lt; have n57 : ¬ g5 = g7 := (by omega); have n54 : ¬ g5 = g4 := (by omega); have HA3 := Lib.hid A3; have HA4 := Lib.hid A4; have HA5 := Lib.hid A5; have HA7 := Lib.hid A7; have HO4 := Lib.hid hO4; obtain ⟨a4, n4, rfl⟩ := hO4.slice; clear A3 A4 A5 A7 hO4 hg4)))
   refine ⟨((((keeps_below B3.out).trans AK.out.1).trans (KeepsOthers.setCell _ _ _)).trans ((KeepsOthers.setCell _ _ _).trans (KeepsOthers.setCell _ _ _))).from _, rfl, by rw [HRW.out]; exact HMX.out, ?_, ?_, ?_⟩
   · exact ((HA4.out.other (by omega) _).set _).other (by omega) _
   · exact ((HA5.out.other (by omega) _).other (by omega) _).set _
   · exact ((((PP.out.bw.trans (B3.out.mono PP.out.bw.size)).trans AK.out.2.1).setCell (by show w.heap.size <= g7; omega) _).setCell (by show w.heap.size <= g4; omega) _).setCell (by show w.heap.size <= g5; omega) _
 | false =>
   have CAT : ((⟨#[45, 32]⟩ : ByteArray) ++ B (lineF xq)) ++ (⟨#[10]⟩ : ByteArray) = B r := CAT0
   clear CAT0
   have d37 : decide (most < ((textW pre).length : Int) + (r.length : Int)) = true := decide_eq_true (by omega)
   have HMX : Hid (most < ((textW pre ++ r).length : Int)) := Lib.hid (by rw [List.length_append]; omega)
   clear hm
   conv => arg 4; whnf
   gi_wp2_with (first
     | (refine wpListIn_load_quad rfl (.tmp 9) rfl Bx 0 rfl xq (range_row (cs := quadC xq) HXB.out) ?_)
     | (refine ⟨trivial, ?_⟩; gi_at_call 24; refine (CallsIn.inRound lr (callsIn_wide.2 TX.out)).mono ?_; rintro e w3 ⟨rfl, hb3⟩; have P3 := Lib.hid (PP.out.below hb3); have B3 := Lib.hid hb3; have k7 := P3.out.b7.cell; have l7 := P3.out.b7.lt; have hs3 := P3.out.lt; clear hb3)
     | (gi_at_builtin; go_loud (refine wpListIn_app_str rfl (.tmp 28) (.tmp 32) rfl n1 _ (textW pre) r rfl P3.out.ov rfl (by omega) (by omega) ?_; intro v4 w4 hO4 hg4; have hO5 := hO4; rw [<- HRW.out] at hO5; have AF := after_app GG P3.out hO5 hg4; have A3 := AF.1; have A4 := AF.2.1; have A5 := AF.2.2.1; have A7 := AF.2.2.2.1; have AK := Lib.hid AF.2.2.2.2; clear AF hO5; clear k7 l7; have k7 := A7.cell; have f7 := A7.frozen; have l7 := A7.lt; have k3 := A3.cell; have l3 := A3.lt; have n37 : ¬ g3 = g7 := (by omega); have k4 := A4.cell; have f4 := A4.frozen; have l4 := A4.lt; have n47 : ¬ g4 = g7 := (by omega); have k5 := A5.cell; have f5 := A5.frozen; have l5 := A5.lt; have n57 : ¬ g5 = g7 := (by omega); have n54 : ¬ g5 = g4 := (by omega); have HA3 := Lib.hid A3; have HA4 := Lib.hid A4; have HA5 := Lib.hid A5; have HA7 := Lib.hid A7; have HO4 := Lib.hid hO4; obtain ⟨a4, n4, rfl⟩ := hO4.slice; clear A3 A4 A5 A7 hO4 hg4)))
   refine ⟨((((keeps_below B3.out).trans AK.out.1).trans (KeepsOthers.setCell _ _ _)).trans ((KeepsOthers.setCell _ _ _).trans (KeepsOthers.setCell _ _ _))).from _, rfl, by rw [HRW.out]; exact HMX.out, ?_, ?_, ?_⟩
   · exact ((HA4.out.other (by omega) _).set _).other (by omega) _
   · exact ((HA5.out.other (by omega) _).other (by omega) _).set _
   · exact ((((PP.out.bw.trans (B3.out.mono PP.out.bw.size)).trans AK.out.2.1).setCell (by show w.heap.size <= g7; omega) _).setCell (by show w.heap.size <= g4; omega) _).setCell (by show w.heap.size <= g5; omega) _
theorem prIn_new (w w1 : World) (p : PatchL) (ma pa : Option Addr) (mc pc : Nat) (most : Int) (hb : Below ((((w.alloc (.cells #[.slice ma p.minus.length mc, .slice pa p.plus.length pc] 24)).alloc (.cells #[.int .i64 most] 3)).alloc (.cells #[.slice none 0 0] 27)).alloc (.cells #[.int .i64 0] 28)).heap.size ((((w.alloc (.cells #[.slice ma p.minus.length mc, .slice pa p.plus.length pc] 24)).alloc (.cells #[.int .i64 most] 3)).alloc (.cells #[.slice none 0 0] 27)).alloc (.cells #[.int .i64 0] 28)) w1) :
   PrIn w most (w.heap.size + 1) (w.heap.size + 1 + 1) (w.heap.size + 1 + 1 + 1) w1.heap.size (w1.heap.size + 1 + 1) [] (.slice none 0 0) ((w1.alloc (.cells #[.slice none 0 0] 27)).alloc (.cells #[.slice ma p.minus.length mc, .slice pa p.plus.length pc] 24)) /\ PrG w.heap.size (w.heap.size + 1) (w.heap.size + 1 + 1) (w.heap.size + 1 + 1 + 1) w1.heap.size (w1.heap.size + 1 + 1) := by
 have s1 : (w.alloc (.cells #[.slice ma p.minus.length mc, .slice pa p.plus.length pc] 24)).heap.size = w.heap.size + 1 := World.size_alloc _ _
 have s2 : ((w.alloc (.cells #[.slice ma p.minus.length mc, .slice pa p.plus.length pc] 24)).alloc (.cells #[.int .i64 most] 3)).heap.size = w.heap.size + 1 + 1 := by rw [World.size_alloc, s1]
 have s3 : (((w.alloc (.cells #[.slice ma p.minus.length mc, .slice pa p.plus.length pc] 24)).alloc (.cells #[.int .i64 most] 3)).alloc (.cells #[.slice none 0 0] 27)).heap.size = w.heap.size + 1 + 1 + 1 := by rw [World.size_alloc, s2]
 have s4 : ((((w.alloc (.cells #[.slice ma p.minus.length mc, .slice pa p.plus.length pc] 24)).alloc (.cells #[.int .i64 most] 3)).alloc (.cells #[.slice none 0 0] 27)).alloc (.cells #[.int .i64 0] 28)).heap.size = w.heap.size + 1 + 1 + 1 + 1 := by rw [World.size_alloc, s3]
 have x1 := Boxed.new (w.alloc (.cells #[.slice ma p.minus.length mc, .slice pa p.plus.length pc] 24)) 3 (.int .i64 most)
 have x2 := Boxed.new ((w.alloc (.cells #[.slice ma p.minus.length mc, .slice pa p.plus.length pc] 24)).alloc (.cells #[.int .i64 most] 3)) 27 (.slice none 0 0)
 have x3 := Boxed.new (((w.alloc (.cells #[.slice ma p.minus.length mc, .slice pa p.plus.length pc] 24)).alloc (.cells #[.int .i64 most] 3)).alloc (.cells #[.slice none 0 0] 27)) 28 (.int .i64 0)
 have x7 := Boxed.new w1 27 (.slice none 0 0)
 rw [s1] at x1
 rw [s2] at x2
 rw [s3] at x3
 have hs := hb.size
 rw [s4] at hs
 have hB : Below w.heap.size w ((((w.alloc (.cells #[.slice ma p.minus.length mc, .slice pa p.plus.length pc] 24)).alloc (.cells #[.int .i64 most] 3)).alloc (.cells #[.slice none 0 0] 27)).alloc (.cells #[.int .i64 0] 28)) := ((((Below.refl _ _).alloc (Nat.le_refl _) _).alloc (by simp) _).alloc (by simp; omega) _).alloc (by simp; omega) _
 refine ⟨⟨((boxed_below' ((x1.alloc _).alloc _) hb).alloc _).alloc _, ((boxed_below' (x2.alloc _) hb).alloc _).alloc _, ((boxed_below' x3 hb).alloc _).alloc _, x7.alloc _, BOwn.nil _ _, .inl rfl, by simp, ?_⟩, ⟨by omega, by omega, by omega, by omega, by omega⟩⟩
 exact ((hB.trans (hb.mono hB.size)).alloc (by omega) _).alloc (by simp; omega) _
theorem w4box (w : World) (p : PatchL) (ma pa : Option Addr) (mc pc : Nat) (most : Int) : Boxed ((((w.alloc (.cells #[.slice ma p.minus.length mc, .slice pa p.plus.length pc] 24)).alloc (.cells #[.int .i64 most] 3)).alloc (.cells #[.slice none 0 0] 27)).alloc (.cells #[.int .i64 0] 28)) (w.heap.size + 1 + 1) 27 (.slice none 0 0) /\ Boxed ((((w.alloc (.cells #[.slice ma p.minus.length mc, .slice pa p.plus.length pc] 24)).alloc (.cells #[.int .i64 most] 3)).alloc (.cells #[.slice none 0 0] 27)).alloc (.cells #[.int .i64 0] 28)) (w.heap.size + 1 + 1 + 1) 28 (.int .i64 0) := by
 have s1 : (w.alloc (.cells #[.slice ma p.minus.length mc, .slice pa p.plus.length pc] 24)).heap.size = w.heap.size + 1 := World.size_alloc _ _
 have s2 : ((w.alloc (.cells #[.slice ma p.minus.length mc, .slice pa p.plus.length pc] 24)).alloc (.cells #[.int .i64 most] 3)).heap.size = w.heap.size + 1 + 1 := by rw [World.size_alloc, s1]
 have s3 : (((w.alloc (.cells #[.slice ma p.minus.length mc, .slice pa p.plus.length pc] 24)).alloc (.cells #[.int .i64 most] 3)).alloc (.cells #[.slice none 0 0] 27)).heap.size = w.heap.size + 1 + 1 + 1 := by rw [World.size_alloc, s2]
 have x2 := Boxed.new ((w.alloc (.cells #[.slice ma p.minus.length mc, .slice pa p.plus.length pc] 24)).alloc (.cells #[.int .i64 most] 3)) 27 (.slice none 0 0)
 have x3 := Boxed.new (((w.alloc (.cells #[.slice ma p.minus.length mc, .slice pa p.plus.length pc] 24)).alloc (.cells #[.int .i64 most] 3)).alloc (.cells #[.slice none 0 0] 27)) 28 (.int .i64 0)
 rw [s2] at x2
 rw [s3] at x3
 exact ⟨x2.alloc _, x3⟩
theorem results_pr (tm : Array Value) (u : World) (g f : Nat) (x y : Value) {T T' : TypeId} (h2 : tm.getD 4 undef = .pointer (some ⟨g, 0, none⟩)) (h3 : tm.getD 5 undef = .pointer (some ⟨f, 0, none⟩)) (hx : Boxed u g T x) (hy : Boxed u f T' y) :
   (results Tryz.f7 tm).run Tryz.prog u = .ok (.tuple #[x, y]) u := by
 have c0 := hx.cell
 have c1 := hy.cell
 have hr : (Tryz.f7).results = #[.cell 4 27, .cell 5 28] := rfl
 rw [Array.getD_eq_getD_getElem?] at h2 h3
 simp [results, h2, h3, go_sem, c0, c1]
theorem textW_part {p : PatchL} (hN : NeatP p) (pre : List (OfPatch p)) (h : pre.length <= (walkL p).length) : (textW (pre.map (·.1))).length <= 57174681255936 := by
 have h2 := textW_le (M := 54526021) (pre.map (·.1)) (fun x hx => by
   obtain ⟨y, _, rfl⟩ := List.mem_map.1 hx
   rcases walk_mem y.2 with h | h
   · exact lineF_le (hN.1.2 _ h)
   · exact lineF_le (hN.2.2 _ h))
 have h3 := walkL_len p
 have h4 := hN.1.1
 have h5 := hN.2.1
 rw [List.length_map] at h2
 have h6 : pre.length * (54526021 + 3) <= 1048576 * (54526021 + 3) := Nat.mul_le_mul_right _ (by omega)
 omega
set_option maxHeartbeats 4000000 in
theorem patchPrint_l (p : PatchL) (mv pv : Value) (most : Int) (w : World) (hT : TabAt w) (hM : MaxAt w) (hV : PView w mv pv p) (hN : NeatP p) :
   Calls Tryz.prog 7 #[.agg #[mv, pv], .int .i64 most] w fun e w' => PrintPost w w' e (printP p most) := by
 obtain ⟨ma, mc, rfl⟩ := hV.1.form
 obtain ⟨pa, pc, rfl⟩ := hV.2.form
 have hB4 : Below w.heap.size w ((((w.alloc (.cells #[.slice ma p.minus.length mc, .slice pa p.plus.length pc] 24)).alloc (.cells #[.int .i64 most] 3)).alloc (.cells #[.slice none 0 0] 27)).alloc (.cells #[.int .i64 0] 28)) := ((((Below.refl _ _).alloc (Nat.le_refl _) _).alloc (by simp) _).alloc (by simp; omega) _).alloc (by simp; omega) _
 have CK0 := patchCheck_l set_ok p _ _ ((((w.alloc (.cells #[.slice ma p.minus.length mc, .slice pa p.plus.length pc] 24)).alloc (.cells #[.int .i64 most] 3)).alloc (.cells #[.slice none 0 0] 27)).alloc (.cells #[.int .i64 0] 28)) (hT.below hB4) (hM.below hB4) (hV.below hB4) hN
 have HNW := Lib.hid (fun (w1 : World) (hb : Below ((((w.alloc (.cells #[.slice ma p.minus.length mc, .slice pa p.plus.length pc] 24)).alloc (.cells #[.int .i64 most] 3)).alloc (.cells #[.slice none 0 0] 27)).alloc (.cells #[.int .i64 0] 28)).heap.size ((((w.alloc (.cells #[.slice ma p.minus.length mc, .slice pa p.plus.length pc] 24)).alloc (.cells #[.int .i64 most] 3)).alloc (.cells #[.slice none 0 0] 27)).alloc (.cells #[.int .i64 0] 28)) w1) => prIn_new w w1 p ma pa mc pc most hb)
 have HHH := Lib.hid (And.intro hT (And.intro hM (And.intro hV hN)))
 have HC : Hid (∀ w1, Below ((((w.alloc (.cells #[.slice ma p.minus.length mc, .slice pa p.plus.length pc] 24)).alloc (.cells #[.int .i64 most] 3)).alloc (.cells #[.slice none 0 0] 27)).alloc (.cells #[.int .i64 0] 28)).heap.size ((((w.alloc (.cells #[.slice ma p.minus.length mc, .slice pa p.plus.length pc] 24)).alloc (.cells #[.int .i64 most] 3)).alloc (.cells #[.slice none 0 0] 27)).alloc (.cells #[.int .i64 0] 28)) w1 -> w1.cell? ⟨w.heap.size, 0, none⟩ = some (.slice ma p.minus.length mc) /\ w1.cell? ⟨w.heap.size, 1, none⟩ = some (.slice pa p.plus.length pc) /\ w.heap.size < w1.heap.size) := Lib.hid (fun w1 hb => by
   have hr : ((((w.alloc (.cells #[.slice ma p.minus.length mc, .slice pa p.plus.length pc] 24)).alloc (.cells #[.int .i64 most] 3)).alloc (.cells #[.slice none 0 0] 27)).alloc (.cells #[.int .i64 0] 28)).heap[w.heap.size]? = some (.cells #[.slice ma p.minus.length mc, .slice pa p.plus.length pc] 24 (0, 0)) := by
     have hbb : Below (w.alloc (.cells #[.slice ma p.minus.length mc, .slice pa p.plus.length pc] 24)).heap.size (w.alloc (.cells #[.slice ma p.minus.length mc, .slice pa p.plus.length pc] 24)) ((((w.alloc (.cells #[.slice ma p.minus.length mc, .slice pa p.plus.length pc] 24)).alloc (.cells #[.int .i64 most] 3)).alloc (.cells #[.slice none 0 0] 27)).alloc (.cells #[.int .i64 0] 28)) := (((Below.refl _ _).alloc (Nat.le_refl _) _).alloc (by simp) _).alloc (by first | (simp; done) | (simp; omega)) _
     exact (hbb.block w.heap.size (by simp)).trans (heap_alloc_new w _)
   have h2 := (hb.block w.heap.size (Array.getElem?_eq_some_iff.1 hr).1).trans hr
   exact ⟨by simp [World.cell?, h2], by simp [World.cell?, h2], (Array.getElem?_eq_some_iff.1 h2).1⟩)
 have HB4 := Lib.hid hB4
 obtain ⟨cn, hcn⟩ : ∃ cn, checkN p = cn := ⟨_, rfl⟩
 rw [hcn] at CK0
 have CK := Lib.hid CK0
 clear CK0 hT hM hV hN hB4
 by_cases hn : cn = 0
 · subst hn
   have HOK := Lib.hid hcn
   clear hcn
   refine (callsIn_wide (n := 12)).1 ?_
   refine callsIn_of_wp_marks Tryz.func7 rfl trivial ?_ rfl
   simp only [Tryz.ntmps7, List.size_toArray, List.length_cons, List.length_nil, Nat.reduceAdd, Nat.reduceSub, Array.replicate_succ, Array.replicate_zero, List.push_toArray, List.append_toArray, List.nil_append, List.cons_append]
   gi_wp2_with (first
     | (refine ⟨trivial, ?_⟩; gi_at_call 22; refine (callsIn_wide.2 CK.out).mono ?_; rintro e w1 ⟨rfl, hb1⟩; have HB1 := Lib.hid hb1; have hc := HC.out w1 hb1; have cc0 := hc.1; have cc1 := hc.2.1; have ll0 := hc.2.2; clear hc hb1)
     | (refine ⟨trivial, ?_⟩; gi_at_call 23; refine (each_in _ _ trivial rfl _ _ _).mono ?_; rintro e w2 ⟨rfl, rfl⟩))
   obtain ⟨P0, G⟩ := HNW.out w1 HB1.out
   have hsz : ((w1.alloc (.cells #[.slice none 0 0] 27)).alloc (.cells #[.slice ma p.minus.length mc, .slice pa p.plus.length pc] 24)).heap.size = w1.heap.size + 1 + 1 := by simp
   have hE : ((w1.alloc (.cells #[.slice none 0 0] 27)).alloc (.cells #[.slice ma p.minus.length mc, .slice pa p.plus.length pc] 24)).heap[w1.heap.size + 1]? = some (.cells #[.slice ma p.minus.length mc, .slice pa p.plus.length pc] 24 (0, 0)) := by
     have := heap_alloc_new (w1.alloc (.cells #[.slice none 0 0] 27)) (.cells #[.slice ma p.minus.length mc, .slice pa p.plus.length pc] 24)
     rwa [World.size_alloc] at this
   generalize hW0 : ((w1.alloc (.cells #[.slice none 0 0] 27)).alloc (.cells #[.slice ma p.minus.length mc, .slice pa p.plus.length pc] 24)) = U0 at P0 hsz hE ⊢
   clear hW0 cc0 cc1 ll0
   rw [<- hsz] at P0 G
   refine wpIn_rangeFunc_ownH (ps := #[20, 21]) (encs := fun x : OfPatch p => encW x.1) rfl (by omega) (gf := 43) (lb := #[.pointer (some ⟨w1.heap.size + 1, 0, none⟩)]) rfl trivial (enters_of Tryz.func43 (by kernel_rfl) rfl)
     (each_stopsM Fence.wide (12 - 1) trivial rfl (by omega) (w1.heap.size + 1) w.heap.size p _ _ U0 (by omega) P0.bw.size (by simp [World.cell?, hE]) (by simp [World.cell?, hE]) (fun W' h => ⟨HHH.out.2.2.1.1.below (P0.bw.trans h), HHH.out.2.2.1.2.below (P0.bw.trans h)⟩) (by have h1 := HHH.out.2.2.2.1.1; have h2 := HHH.out.2.2.2.2.1; omega)) belowK_t (belowK_b P0.bw.size) (Below.refl _ _) (fun _ => rfl)
     (fun s W => PrI w most (w.heap.size + 1) (w.heap.size + 1 + 1) (w.heap.size + 1 + 1 + 1) w1.heap.size U0.heap.size (s.map (·.1)) W) (fun k s W => PrX w most (w.heap.size + 1 + 1) (w.heap.size + 1 + 1 + 1) k (s.map (·.1)) W)
     (fun s X Y row hs hg hr => prI_own w most _ _ _ _ _ G (s.map (·.1)) X Y row hs hg hr) (fun k s X Y row hs hg hr => prX_own w most _ _ _ _ _ G k (s.map (·.1)) X Y row hs hg hr)
     ⟨_, P0⟩
     (fun x a' W => ∃ Bx, BoxN W Bx 56 #[.int .i64 x.1.2.s.kind, .string (B x.1.2.s.text), .string (B x.1.2.s.type), .string (B x.1.2.s.lang), .int .i64 x.1.2.p.kind, .string (B x.1.2.p.text), .string (B x.1.2.p.type), .string (B x.1.2.p.lang), .int .i64 x.1.2.o.kind, .string (B x.1.2.o.text), .string (B x.1.2.o.type), .string (B x.1.2.o.lang), .int .i64 x.1.2.g.kind, .string (B x.1.2.g.text), .string (B x.1.2.g.type), .string (B x.1.2.g.lang)] /\ a' = { tmps := #[.agg #[.slice ma p.minus.length mc, .slice pa p.plus.length pc], .int .i64 most, .pointer (some ⟨w.heap.size, 0, none⟩), .pointer (some ⟨w.heap.size + 1, 0, none⟩), .pointer (some ⟨w.heap.size + 1 + 1, 0, none⟩), .pointer (some ⟨w.heap.size + 1 + 1 + 1, 0, none⟩), .int .i64 0, .pointer (some ⟨w1.heap.size, 0, none⟩), .bool x.1.1, .pointer (some ⟨Bx, 0, none⟩), undef, undef, undef, .agg #[.slice ma p.minus.length mc, .slice pa p.plus.length pc], .int .i64 0, .int .i64 0, .bool false, undef, .agg #[.slice ma p.minus.length mc, .slice pa p.plus.length pc], .func (.func 43) #[] #[.pointer (some ⟨w1.heap.size + 1, 0, none⟩)], .bool x.1.1, .agg #[.int .i64 x.1.2.s.kind, .string (B x.1.2.s.text), .string (B x.1.2.s.type), .string (B x.1.2.s.lang), .int .i64 x.1.2.p.kind, .string (B x.1.2.p.text), .string (B x.1.2.p.type), .string (B x.1.2.p.lang), .int .i64 x.1.2.o.kind, .string (B x.1.2.o.text), .string (B x.1.2.o.type), .string (B x.1.2.o.lang), .int .i64 x.1.2.g.kind, .string (B x.1.2.g.text), .string (B x.1.2.g.type), .string (B x.1.2.g.lang)], undef, undef, undef, undef, undef, undef, undef, undef, undef, undef, undef, undef, undef, undef, undef, undef, undef, undef, undef, undef], defers := [] })
     (fun x a' _ X Y row hs hg hr => by obtain ⟨Bx, h2, h3⟩ := hs; exact ⟨Bx, boxN_own Bx 56 (fun (_ : Unit) => #[.int .i64 x.1.2.s.kind, .string (B x.1.2.s.text), .string (B x.1.2.s.type), .string (B x.1.2.s.lang), .int .i64 x.1.2.p.kind, .string (B x.1.2.p.text), .string (B x.1.2.p.type), .string (B x.1.2.p.lang), .int .i64 x.1.2.o.kind, .string (B x.1.2.o.text), .string (B x.1.2.o.type), .string (B x.1.2.o.lang), .int .i64 x.1.2.g.kind, .string (B x.1.2.g.text), .string (B x.1.2.g.type), .string (B x.1.2.g.lang)]) () X Y row h2 hg (fun r e => (hr r e).2), h3⟩)
     ?assign ?body ?done ?stop
   case assign =>
     rintro l pre x W K ⟨v, hi⟩ hK
     gi_wp2
     have hb := (Below.refl W.heap.size W).alloc (Nat.le_refl _) (.cells #[.int .i64 x.1.2.s.kind, .string (B x.1.2.s.text), .string (B x.1.2.s.type), .string (B x.1.2.s.lang), .int .i64 x.1.2.p.kind, .string (B x.1.2.p.text), .string (B x.1.2.p.type), .string (B x.1.2.p.lang), .int .i64 x.1.2.o.kind, .string (B x.1.2.o.text), .string (B x.1.2.o.type), .string (B x.1.2.o.lang), .int .i64 x.1.2.g.kind, .string (B x.1.2.g.text), .string (B x.1.2.g.type), .string (B x.1.2.g.lang)] 56)
     exact hK _ _ ((KeepsOthers.alloc _ _).from _) (hb.mono hi.bw.size) ⟨v, hi.below hb⟩ ⟨W.heap.size, BoxN.new W 56 _, rfl⟩
   case body =>
     rintro lr pre x a' W hl hr ⟨v, P⟩ ⟨Bx, hX, rfl⟩ hlt
     have hbig := textW_part HHH.out.2.2.2 pre (by omega)
     have hxs : Short x.1.2 := by rcases walk_mem x.2 with h | h; exact HHH.out.2.2.2.1.2 _ h; exact HHH.out.2.2.2.2.2 _ h
     have hxq : quadN x.1.2 = 0 := by rcases walk_mem x.2 with h | h; exact (check_quads HOK.out).1 _ h; exact (check_quads HOK.out).2 _ h
     have hpost : ownPostG U0.heap.size (Below w.heap.size) (fun (s : List (OfPatch p)) W => PrI w most (w.heap.size + 1) (w.heap.size + 1 + 1) (w.heap.size + 1 + 1 + 1) w1.heap.size U0.heap.size (s.map (·.1)) W) (fun k (s : List (OfPatch p)) W => PrX w most (w.heap.size + 1 + 1) (w.heap.size + 1 + 1 + 1) k (s.map (·.1)) W) (pre ++ [x]) W = ownPostG U0.heap.size (Below w.heap.size) (PrI w most (w.heap.size + 1) (w.heap.size + 1 + 1) (w.heap.size + 1 + 1 + 1) w1.heap.size U0.heap.size) (PrX w most (w.heap.size + 1 + 1) (w.heap.size + 1 + 1 + 1)) (pre.map (·.1) ++ [x.1]) W := by
       have hm : (pre ++ [x]).map (·.1) = pre.map (·.1) ++ [x.1] := by rw [List.map_append]; rfl
       funext e a' W'
       cases e <;> simp only [ownPostG, hm]
     rw [hpost]
     by_cases hm : ((textW (pre.map (·.1) ++ [x.1])).length : Int) <= most
     · exact pround_fit 12 (by omega) w p ma pa mc pc most w.heap.size _ _ _ _ (w1.heap.size + 1) _ G HHH.out.1 HHH.out.2.1 lr _ x.1 v W Bx P hX hxs hxq hbig hm
     · exact pround_big 12 (by omega) w p ma pa mc pc most w.heap.size _ _ _ _ (w1.heap.size + 1) _ G HHH.out.1 HHH.out.2.1 lr _ x.1 v W Bx P hX hxs hxq hbig (by omega)
   case done =>
     rintro D ys W hD hS ⟨v, P⟩ hK
     have hSS : ys.map (·.1) = walkL p := hS
     rw [hSS] at P
     have hbig := walk_big HHH.out.2.2.2 (List.prefix_refl (walkL p))
     obtain ⟨va, vc, rfl⟩ := P.ov.slice
     have PP := Lib.hid P
     have HK := Lib.hid hK
     have k3 := P.b3.cell
     have l3 := P.b3.lt
     have k4 := P.b4.cell
     have f4 := P.b4.frozen
     have l4 := P.b4.lt
     have k5 := P.b5.cell
     have f5 := P.b5.frozen
     have l5 := P.b5.lt
     have k7 := P.b7.cell
     have l7 := P.b7.lt
     have CL := Lib.hid clone_l
     obtain ⟨G1, G2, G3, G4, G5⟩ := G
     clear P hK hS hSS
     have hr : ∀ {u : World}, u.heap[D]? = some (.deferred (some [])) -> ∀ r, some D = some r -> ∃ o : Obj, u.heap[r]? = some o /\ o.isCells = false := fun h r e => by cases e; exact ⟨_, h, rfl⟩
     by_cases hm : most < 0
     · have d38 : decide (most < 0) = true := decide_eq_true hm
       have HE : Hid (printP p most = ([], 1)) := Lib.hid (printP_big HOK.out (List.nil_prefix) (by simpa [textW] using hm))
       clear hm
       gi_wp2_with fail
       have hK5 := (KeepsOthers.setCell (W.setCell ⟨w.heap.size + 1 + 1, 0, none⟩ (.slice none 0 0)) ⟨w.heap.size + 1 + 1 + 1, 0, none⟩ (.int .i64 1)).same D _ ((KeepsOthers.setCell W ⟨w.heap.size + 1 + 1, 0, none⟩ (.slice none 0 0)).same D _ HK.out rfl) rfl
       refine ⟨by simp, .inl ⟨_, _, rfl, run_takeDeferred hK5, ?_⟩⟩
       have y4 := ((PP.out.b4.set (.slice none 0 0)).other (B' := w.heap.size + 1 + 1 + 1) (by omega) (.int .i64 1)).kept (grownBy_putObj' _ D (.deferred none)) (by simp; omega)
       have y5 := ((PP.out.b5.other (B' := w.heap.size + 1 + 1) (by omega) (.slice none 0 0)).set (.int .i64 1)).kept (grownBy_putObj' _ D (.deferred none)) (by simp; omega)
       refine ⟨_, results_pr _ _ _ _ _ _ rfl rfl y4 y5, _, by rw [HE.out], by rw [HE.out]; exact BOwn.nil _ _, ?_⟩
       have b1 := (PP.out.bw.setCell (p := ⟨w.heap.size + 1 + 1, 0, none⟩) (by show w.heap.size <= w.heap.size + 1 + 1; omega) (.slice none 0 0)).setCell (p := ⟨w.heap.size + 1 + 1 + 1, 0, none⟩) (by show w.heap.size <= w.heap.size + 1 + 1 + 1; omega) (.int .i64 1)
       have hsz2 := PP.out.lt
       exact b1.grown (grownBy_putObj' _ D (.deferred none)) (by simp; omega) (fun k e => by have := Option.some.inj e; omega)
     · have d38 : decide (most < 0) = false := decide_eq_false hm
       have HE : Hid (printP p most = (textW (walkL p), 0)) := Lib.hid (printP_ok HOK.out (by
         rcases PP.out.mx with h | h
         · rw [h]; simp [textW]; omega
         · exact h))
       clear hm
       gi_wp2_with (refine ⟨trivial, ?_⟩; gi_at_call 25; refine (callsIn_wide.2 (CL.out _ _ _ _ PP.out.ov (by omega))).mono ?_; rintro e w5 ⟨v5, rfl, ho5, hb5⟩; obtain ⟨va5, vc5, rfl⟩ := ho5.slice; have HO5 := Lib.hid ho5; have HB5 := Lib.hid hb5; have P5 := Lib.hid (PP.out.below hb5); clear k3 l3 k4 f4 l4 k5 f5 l5 k7 l7; have k4 := P5.out.b4.cell; have f4 := P5.out.b4.frozen; have l4 := P5.out.b4.lt; have k5 := P5.out.b5.cell; have f5 := P5.out.b5.frozen; have l5 := P5.out.b5.lt; have n54 : ¬ w.heap.size + 1 + 1 + 1 = w.heap.size + 1 + 1 := (by omega); clear ho5 hb5)
       have hDW : D < W.heap.size := (Array.getElem?_eq_some_iff.1 HK.out).1
       have hK3 := (HB5.out.block D hDW).trans HK.out
       have hK5 := (KeepsOthers.setCell (w5.setCell ⟨w.heap.size + 1 + 1, 0, none⟩ (.slice va5 (textW (walkL p)).length vc5)) ⟨w.heap.size + 1 + 1 + 1, 0, none⟩ (.int .i64 0)).same D _ ((KeepsOthers.setCell w5 ⟨w.heap.size + 1 + 1, 0, none⟩ (.slice va5 (textW (walkL p)).length vc5)).same D _ hK3 rfl) rfl
       refine ⟨by simp, .inl ⟨_, _, rfl, run_takeDeferred hK5, ?_⟩⟩
       have y4 := ((P5.out.b4.set (.slice va5 (textW (walkL p)).length vc5)).other (B' := w.heap.size + 1 + 1 + 1) (by omega) (.int .i64 0)).kept (grownBy_putObj' _ D (.deferred none)) (by simp; omega)
       have y5 := ((P5.out.b5.other (B' := w.heap.size + 1 + 1) (by omega) (.slice va5 (textW (walkL p)).length vc5)).set (.int .i64 0)).kept (grownBy_putObj' _ D (.deferred none)) (by simp; omega)
       have hsz2 := P5.out.lt
       have hszW := PP.out.lt
       refine ⟨_, results_pr _ _ _ _ _ _ rfl rfl y4 y5, _, by rw [HE.out], ?_, ?_⟩
       · rw [HE.out]
         have h1 := ownsRow_grown HO5.out (grownBy_setCell' w5 (w.heap.size + 1 + 1) (.slice va5 (textW (walkL p)).length vc5)) (fun k hk e => by have h1 := own_base HO5.out k hk; have h2 := Option.some.inj e; omega)
         have h2 := ownsRow_grown h1 (grownBy_setCell' (w5.setCell ⟨w.heap.size + 1 + 1, 0, none⟩ (.slice va5 (textW (walkL p)).length vc5)) (w.heap.size + 1 + 1 + 1) (.int .i64 0)) (fun k hk e => by have h1 := own_base HO5.out k hk; have h2 := Option.some.inj e; omega)
         have h3 := ownsRow_grown h2 (grownBy_putObj' _ D (.deferred none)) (fun k hk e => by have h1 := own_base HO5.out k hk; have h2 := Option.some.inj e; omega)
         exact bown_lower h3 (Nat.le_trans (by omega) hszW)
       · have b1 := (P5.out.bw.setCell (p := ⟨w.heap.size + 1 + 1, 0, none⟩) (by show w.heap.size <= w.heap.size + 1 + 1; omega) (.slice va5 (textW (walkL p)).length vc5)).setCell (p := ⟨w.heap.size + 1 + 1 + 1, 0, none⟩) (by show w.heap.size <= w.heap.size + 1 + 1 + 1; omega) (.int .i64 0)
         exact b1.grown (grownBy_putObj' _ D (.deferred none)) (by simp; omega) (fun k e => by have := Option.some.inj e; omega)
   case stop =>
     rintro D k pre W hD hSp ⟨rfl, h1, h4, h5, hB⟩ hK
     have HE : Hid (printP p most = ([], 1)) := Lib.hid (printP_big HOK.out hSp h1)
     have H4 := Lib.hid h4
     have H5 := Lib.hid h5
     have HBB := Lib.hid hB
     have HK := Lib.hid hK
     obtain ⟨G1, G2, G3, G4, G5⟩ := G
     clear h1 h4 h5 hB hK
     gi_wp2_with fail
     refine ⟨by simp, .inl ⟨_, _, rfl, run_takeDeferred HK.out, ?_⟩⟩
     have y4 := H4.out.kept (grownBy_putObj' _ D (.deferred none)) (by simp; omega)
     have y5 := H5.out.kept (grownBy_putObj' _ D (.deferred none)) (by simp; omega)
     refine ⟨_, results_pr _ _ _ _ _ _ rfl rfl y4 y5, _, by rw [HE.out], by rw [HE.out]; exact BOwn.nil _ _, ?_⟩
     exact HBB.out.grown (grownBy_putObj' _ D (.deferred none)) HBB.out.size (fun k e => by have := Option.some.inj e; omega)
 · have e0 : (cn != 0) = true := bne_iff_ne.2 hn
   have HE : Hid (printP p most = ([], cn)) := Lib.hid (by rw [printP_bad (by rw [hcn]; exact hn), hcn])
   clear hn hcn
   go_enter Tryz.func7, Tryz.ntmps7
   go_wp2_with (go_at_call 22; (with_reducible refine CK.out.mono ?_); rintro e w1 ⟨rfl, hb1⟩; have HB1 := Lib.hid hb1; obtain ⟨P0, G⟩ := HNW.out w1 hb1; have x4 := boxed_below' (w4box w p ma pa mc pc most).1 hb1; have x5 := boxed_below' (w4box w p ma pa mc pc most).2 hb1; have k4 := x4.cell; have f4 := x4.frozen; have l4 := x4.lt; have k5 := x5.cell; have f5 := x5.frozen; have l5 := x5.lt; have X4 := Lib.hid x4; have X5 := Lib.hid x5; have HPB := Lib.hid P0.bw; clear hb1 P0 G x4 x5)
   refine bodyPost_ret (results_pr _ _ _ _ _ _ rfl rfl ((X4.out.set _).other (by omega) _) ((X5.out.other (by omega) _).set _)) rfl ?_
   exact ⟨_, by rw [HE.out], by rw [HE.out]; exact BOwn.nil _ _, ((HB4.out.trans (HB1.out.mono HB4.out.size)).setCell (p := ⟨w.heap.size + 1 + 1, 0, none⟩) (by show w.heap.size <= w.heap.size + 1 + 1; omega) _).setCell (p := ⟨w.heap.size + 1 + 1 + 1, 0, none⟩) (by show w.heap.size <= w.heap.size + 1 + 1 + 1; omega) _⟩
end Go.Proofs.YtmnigckpejcaeaaGreatDoor
