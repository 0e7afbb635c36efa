/-
  patch.(*parser).line: a line that brings a quad. By an AI agent.
-/
import Derived.Test.YtmnigckpejcaeaaGreatDoorZPatchAt
import Derived.Test.YtmnigckpejcaeaaGreatDoorZSets
namespace Go.Proofs.YtmnigckpejcaeaaGreatDoor
open Go.RowKit
set_option maxRecDepth 1000000
theorem PRaw.mark {w : World} {b gm n1 : Nat} {m p A : List QuadL} {vm vp : Value} {W W' : World} {q : QuadL} (h : PRaw w b gm n1 m p A vm vp W) (hg : W.grownBy W' (some gm)) (ho : W'.ownsMap Tryz.prog 56 Go.unitElem gm (A.length + 1) ((setD A).put (keyQ q) (.agg []))) : PRaw w b gm n1 m p (A ++ [q]) vm vp W' := by
 have own : ∀ {v : Value} {l : List QuadL}, QOwn n1 v l W -> QOwn n1 v l W' := fun hq => ownsRow_grown hq hg (fun k hk e => by have h1 := own_base hq k hk; have h2 := Option.some.inj e; have := h.gn; omega)
 refine ⟨(hg.block b (Array.getElem?_eq_some_iff.1 h.row).1 (fun e => h.bg (Option.some.inj e).symm)).trans h.row, own h.om, own h.op, ?_, h.ne, Nat.le_trans h.lt hg.size, h.bn, h.gn, h.bg, h.rb, h.rg, h.bw.grown hg h.bw.size (fun k e => by have := Option.some.inj e; have := h.rg; omega), h.nm, h.np⟩
 rw [setD_snoc, List.length_append, List.length_singleton]
 exact ho
theorem row3_set0 {W : World} {b : Nat} {x y z v : Value} {T : TypeId} (h : W.heap[b]? = some (.cells #[x, y, z] T (0, 0))) : (W.setCell ⟨b, 0, none⟩ v).heap[b]? = some (.cells #[v, y, z] T (0, 0)) := heap_setCell_same _ _ 0 _ _ _ h
theorem row3_set1 {W : World} {b : Nat} {x y z v : Value} {T : TypeId} (h : W.heap[b]? = some (.cells #[x, y, z] T (0, 0))) : (W.setCell ⟨b, 1, none⟩ v).heap[b]? = some (.cells #[x, v, z] T (0, 0)) := heap_setCell_same _ _ 1 _ _ _ h
theorem PRaw.putM {w : World} {b gm n1 : Nat} {m p A : List QuadL} {vm vp v' : Value} {W W' : World} {q : QuadL} (h : PRaw w b gm n1 m p A vm vp W) (hO : QOwn n1 v' (m ++ [q]) W') (hg : W.grownBy W' vm.ownBlock) (hn : v'.ownBlock = vm.ownBlock \/ v'.ownBlock = some W.heap.size) : PRaw w b gm n1 (m ++ [q]) p A v' vp (W'.setCell ⟨b, 0, none⟩ v') := by
 have hob : ∀ k, vm.ownBlock = some k -> n1 <= k := own_base h.om
 have hbn := h.bn
 have hgn := h.gn
 have hlt := h.lt
 have hs : n1 <= W'.heap.size := Nat.le_trans h.lt hg.size
 refine ⟨row3_set0 ((hg.block b (Array.getElem?_eq_some_iff.1 h.row).1 (fun e => by have := hob b e.symm; omega)).trans h.row), hO.set _ _ hbn, ?_, ?_, ?_, by simpa using hs, h.bn, h.gn, h.bg, h.rb, h.rg, ?_, (fun e => by simp at e), h.np⟩
 · exact QOwn.set (ownsRow_grown h.op hg (fun k hk e => h.ne k e.symm hk)) _ _ hbn
 · exact (h.mp.kept hg (fun e => by have := hob gm e.symm; omega)).setCell (by show gm ≠ b; exact h.bg) _
 · intro k hk
   rcases hn with e | e
   · exact h.ne k (e ▸ hk)
   · intro h2
     have := own_lt h.op k h2
     rw [e] at hk
     have := Option.some.inj hk
     omega
 · exact (h.bw.grown hg h.bw.size (fun k e => by have := hob k e; have := h.bw.size; have := h.rb; omega)).setCell (by show w.heap.size <= b; exact h.rb) _
theorem PRaw.putP {w : World} {b gm n1 : Nat} {m p A : List QuadL} {vm vp v' : Value} {W W' : World} {q : QuadL} (h : PRaw w b gm n1 m p A vm vp W) (hO : QOwn n1 v' (p ++ [q]) W') (hg : W.grownBy W' vp.ownBlock) (hn : v'.ownBlock = vp.ownBlock \/ v'.ownBlock = some W.heap.size) : PRaw w b gm n1 m (p ++ [q]) A vm v' (W'.setCell ⟨b, 1, none⟩ v') := by
 have hob : ∀ k, vp.ownBlock = some k -> n1 <= k := own_base h.op
 have hbn := h.bn
 have hgn := h.gn
 have hlt := h.lt
 have hs : n1 <= W'.heap.size := Nat.le_trans h.lt hg.size
 refine ⟨row3_set1 ((hg.block b (Array.getElem?_eq_some_iff.1 h.row).1 (fun e => by have := hob b e.symm; omega)).trans h.row), ?_, hO.set _ _ hbn, ?_, ?_, by simpa using hs, h.bn, h.gn, h.bg, h.rb, h.rg, ?_, h.nm, (fun e => by simp at e)⟩
 · exact QOwn.set (ownsRow_grown h.om hg (fun k hk e => h.ne k hk e.symm)) _ _ hbn
 · exact (h.mp.kept hg (fun e => by have := hob gm e.symm; omega)).setCell (by show gm ≠ b; exact h.bg) _
 · intro k hk h2
   rcases hn with e | e
   · exact h.ne k hk (e ▸ h2)
   · have := own_lt h.om k hk
     rw [e] at h2
     have := Option.some.inj h2
     omega
 · exact (h.bw.grown hg h.bw.size (fun k e => by have := hob k e; have := h.bw.size; have := h.rb; omega)).setCell (by show w.heap.size <= b; exact h.rb) _
theorem PRaw.rowM {w : World} {b gm n1 : Nat} {m p A : List QuadL} {vm vp : Value} {W W' : World} (h : PRaw w b gm n1 m p A vm vp W) (hg : W.grownBy W' vm.ownBlock) : W'.heap[b]? = some (.cells #[vm, vp, .map (some gm)] 71 (0, 0)) :=
 (hg.block b (Array.getElem?_eq_some_iff.1 h.row).1 (fun e => by have := own_base h.om b e.symm; have := h.bn; omega)).trans h.row
theorem PRaw.rowP {w : World} {b gm n1 : Nat} {m p A : List QuadL} {vm vp : Value} {W W' : World} (h : PRaw w b gm n1 m p A vm vp W) (hg : W.grownBy W' vp.ownBlock) : W'.heap[b]? = some (.cells #[vm, vp, .map (some gm)] 71 (0, 0)) :=
 (hg.block b (Array.getElem?_eq_some_iff.1 h.row).1 (fun e => by have := own_base h.op b e.symm; have := h.bn; omega)).trans h.row
theorem PAt.put {m p A m' p' : List QuadL} {q : QuadL} {w : World} {b gm n1 : Nat} {vm vp : Value} {W : World} (h : PAt w b gm n1 m p A vm vp W) (hq : WfQ q) (hc : (m' = m ++ [q] /\ p' = p) \/ (m' = m /\ p' = p ++ [q])) : (∀ x, x ∈ A ++ [q] ↔ x ∈ m' \/ x ∈ p') /\ (A ++ [q]).length = m'.length + p'.length /\ ∀ x ∈ A ++ [q], WfQ x := by
 refine ⟨fun x => ?_, ?_, fun x hx => ?_⟩
 · have := h.mem x
   rcases hc with ⟨rfl, rfl⟩ | ⟨rfl, rfl⟩ <;> (simp only [List.mem_append, List.mem_singleton, this]; constructor <;> (intro hx; rcases hx with hx | hx <;> (first | (rcases hx with hx | hx <;> simp [hx]) | simp [hx])))
 · have := h.len
   rcases hc with ⟨rfl, rfl⟩ | ⟨rfl, rfl⟩ <;> (simp; omega)
 · rcases List.mem_append.1 hx with hx | hx
   · exact h.wf x hx
   · rw [List.mem_singleton.1 hx]; exact hq
theorem cell3_0 {W : World} {b : Nat} {x y z : Value} {T : TypeId} (h : W.heap[b]? = some (.cells #[x, y, z] T (0, 0))) : W.cell? ⟨b, 0, none⟩ = some x := by simp [World.cell?, h]
theorem cell3_1 {W : World} {b : Nat} {x y z : Value} {T : TypeId} (h : W.heap[b]? = some (.cells #[x, y, z] T (0, 0))) : W.cell? ⟨b, 1, none⟩ = some y := by simp [World.cell?, h]
theorem free3_0 {W : World} {b : Nat} {x y z : Value} {T : TypeId} (h : W.heap[b]? = some (.cells #[x, y, z] T (0, 0))) : W.frozen? ⟨b, 0, none⟩ = false := by simp [World.frozen?, h]
theorem free3_1 {W : World} {b : Nat} {x y z : Value} {T : TypeId} (h : W.heap[b]? = some (.cells #[x, y, z] T (0, 0))) : W.frozen? ⟨b, 1, none⟩ = false := by simp [World.frozen?, h]
theorem look_q {W : World} {gm : Nat} {A : List QuadL} {q : QuadL} {n : Nat} (h : W.ownsMap Tryz.prog 56 Go.unitElem gm n (setD A)) (ha : ∀ x ∈ A, WfQ x) (hq : WfQ q) : (Instr.lookup 69 (.map (some gm)) (qv q) true).run Tryz.prog W = .ok (.tuple #[.agg #[], .bool (decide (q ∈ A))]) W := by
 obtain ⟨v, ps, hr, hv⟩ := h.look_ok lawQ Tryz.underlying69 (zeroU W) (zd := .agg []) (zp := []) unitElem_mk (keyOf_q hq)
 obtain ⟨rfl, _⟩ := unitElem_inv hv
 rw [has_setD ha hq] at hr
 exact hr
theorem mark_q {W : World} {gm : Nat} {A : List QuadL} {q : QuadL} {n : Nat} (h : W.ownsMap Tryz.prog 56 Go.unitElem gm n (setD A)) (hn : n < maxLen) (hq : WfQ q) : ∃ W', (Instr.mapUpdate 69 (.map (some gm)) (qv q) (.agg #[])).run Tryz.prog W = .ok () W' /\ W'.ownsMap Tryz.prog 56 Go.unitElem gm (n + 1) ((setD A).put (keyQ q) (.agg [])) /\ W.grownBy W' (some gm) :=
 h.update lawQ Tryz.underlying69 hn (keyOf_q hq) (d := .agg []) (ps := []) unitElem_mk
theorem step_append_q {w : World} {ops : Array Oper} {o : Oper} {a : Act} {K : Act -> World -> Prop} {Q : Exit -> Act -> World -> Prop} {E : Prop} (hgd : o.guard = none) (s x : Operand)
   (ho : o.op = .call { callee := .builtin .append, args := #[s, x], argTypes := #[22, 22] })
   (base : Nat) (v : Value) (l : List QuadL) (q : QuadL) (hs : a.eval s = v) (hown : QOwn base v l w) (g : Nat) (hx : a.eval x = .slice (some ⟨g, 0, none⟩) 1 1) (hg : w.heap[g]? = some (.cells (quadsC [q]).toArray 56 (0, 0)))
   (hl : l.length + 1 <= 4194304) (hbase : base <= w.heap.size)
   (h : ∀ v' w', QOwn base v' (l ++ [q]) w' -> w.grownBy w' v.ownBlock -> (v'.ownBlock = v.ownBlock \/ v'.ownBlock = some w.heap.size) -> K (a.put o.dst v') w') :
   if Region.wanted o (yielded ops a.tmps) = true then Oper.wp Tryz.prog o a w K Q else E := by
 have hw : Region.wanted o (yielded ops a.tmps) = true := by simp [Region.wanted, hgd]
 rw [if_pos hw]
 obtain ⟨i0, hi, hz0, hz1, hz2⟩ := info_parts infoQ
 obtain ⟨v', w', hr, h2, h3, _, h5⟩ := run_append_own_at (P := Tryz.prog) w base 22 o.type 56 i0 _ 16 224 Tryz.underlying22 hi hz0 hz1 hz2 rfl (by decide) v l.length (quadsC l) hown ⟨g, 0, none⟩ 1 1 (quadsC [q]) (by rw [quadsC_len]; rfl)
   (fun j u hu => by
     rw [addO]
     have := range_row (cs := quadsC [q]) hg
     have h := this j u hu
     simpa using h) (oneCell_quads [q]) (by unfold maxLen; omega) (by omega) hbase
 unfold Oper.wp execOp
 simp only [ho, resolve, invoke, builtin, Sem.run_bind, Sem.run_pure, Result.andThen_ok, List.map_toArray, List.map_cons, List.map_nil, hs, hx, hr]
 refine h v' w' ?_ h3 h5
 unfold QOwn
 rw [List.length_append, List.length_singleton, quadsC_append]
 exact h2
def fromRegion (k : Nat) : Code -> Option Code
 | .seq a b => match a with
   | .region i _ _ => if i = k then some (.seq a b) else fromRegion k b
   | a => match fromRegion k a with
     | some c => some c
     | none => fromRegion k b
 | .block _ c => fromRegion k c
 | .scope c => fromRegion k c
 | .loop c => fromRegion k c
 | .cond _ a b => match fromRegion k a with
   | some c => some c
   | none => fromRegion k b
 | _ => none
def restOf (k : Nat) : Code -> Option Code
 | .seq a b => match a with
   | .region i _ _ => if i = k then some b else restOf k b
   | a => match restOf k a with
     | some c => some c
     | none => restOf k b
 | .block _ c => restOf k c
 | .scope c => restOf k c
 | .loop c => restOf k c
 | .cond _ a b => match restOf k a with
   | some c => some c
   | none => restOf k b
 | _ => none
def headOf : Code -> Code
 | .seq a _ => a
 | c => c
noncomputable def lineR22 : Code := headOf ((Tryz.f29.body.bind (fromRegion 22)).getD .skip)
noncomputable def lineR28 : Code := headOf ((Tryz.f29.body.bind (fromRegion 28)).getD .skip)
noncomputable def lineS22 : Code := (Tryz.f29.body.bind (restOf 22)).getD .skip
noncomputable def lineS28 : Code := (Tryz.f29.body.bind (restOf 28)).getD .skip
theorem results_ln6 (tm : Array Value) (u : World) (h : tm.getD 6 undef = .nilIface) : (results Tryz.f29 tm).run Tryz.prog u = .ok .nilIface u := by
 have hr : (Tryz.f29).results = #[.tmp 6] := rfl
 rw [Array.getD_eq_getD_getElem?] at h
 simp [results, h, go_sem]
set_option maxHeartbeats 3200000 in
theorem pline_28M (w : World) (b gm n1 fr j : Nat) (s : List UInt8) (m p A : List QuadL) (vm vp : Value) (W : World) (g : Nat) (q : QuadL) (hl : m.length < 1048576) (R : PRaw w b gm n1 m p (A ++ [q]) vm vp W) (hq : W.heap[g]? = some (.cells (quadC q).toArray 56 (0, 0))) (hQ : pStep (.inl (m, p)) (fr, s) = .inl (m ++ [q], p)) (hPUT : (∀ x, x ∈ A ++ [q] ↔ x ∈ m ++ [q] \/ x ∈ p) /\ (A ++ [q]).length = (m ++ [q]).length + (p).length /\ ∀ x ∈ A ++ [q], WfQ x) (K : Act -> World -> Prop) (hK : ∀ a u, lineS28.wp Tryz.prog (bodyPost Tryz.prog Tryz.f29 (fun e W' => PostL w b gm n1 e W' (pStep (.inl (m, p)) (fr, s)))) a u -> K a u) (u3 u4 u5 u6 u8 u10 u11 u12 u13 u14 u16 u17 u18 u19 u20 u21 u22 u23 u24 u25 u26 u27 u28 u29 u30 u31 u32 u33 u34 u35 u36 u37 u38 u39 u40 u41 u42 u43 u44 u45 u46 u47 u48 u49 u50 u51 u52 u53 u54 u55 u56 u57 u58 u59 u60 u61 u62 u63 u64 u65 u66 u67 u68 u69 u70 u71 u72 u73 u74 u75 u76 u77 u78 u79 u80 u81 u82 u83 u84 u85 u86 u87 u88 u89 u90 u91 u92 u93 u94 u95 u96 u97 u98 u99 u100 u101 u102 u103 u104 u105 u106 u107 u108 u109 u110 u111 u112 u113 u114 u115 u116 u117 u118 u119 u120 u121 u122 u123 u124 u125 u126 u127 u128 u129 u130 u131 u132 u133 u134 u135 u136 u137 u138 u139 u140 u141 u142 u143 u144 u145 u146 u147 u148 u149 : Value) :
   lineR28.wp Tryz.prog (Exit.then K (bodyPost Tryz.prog Tryz.f29 (fun e W' => PostL w b gm n1 e W' (pStep (.inl (m, p)) (fr, s))))) { tmps := #[.pointer (some ⟨b, 0, none⟩), .string (B s), .int .i64 (fr : Int), u3, u4, u5, u6, .int .i64 (j : Int), u8, .pointer (some ⟨g, 0, none⟩), u10, u11, u12, u13, u14, .pointer (some ⟨b, 0, none⟩), u16, u17, u18, u19, u20, u21, u22, u23, u24, u25, u26, u27, u28, u29, u30, u31, u32, u33, u34, u35, u36, u37, u38, u39, u40, u41, u42, u43, u44, u45, u46, u47, u48, u49, u50, u51, u52, u53, u54, u55, u56, u57, u58, u59, u60, u61, u62, u63, u64, u65, u66, u67, u68, u69, u70, u71, u72, u73, u74, u75, u76, u77, u78, u79, u80, u81, u82, u83, u84, u85, u86, u87, u88, u89, u90, u91, u92, u93, u94, u95, u96, u97, u98, u99, u100, u101, u102, u103, u104, u105, u106, u107, u108, u109, u110, u111, u112, u113, u114, u115, u116, u117, u118, u119, u120, u121, u122, u123, u124, u125, u126, u127, u128, u129, u130, u131, u132, u133, u134, u135, u136, u137, u138, u139, u140, u141, u142, u143, u144, u145, u146, u147, u148, u149], defers := [] } W := by
 have R8 := Lib.hid R
 have Q8 := Lib.hid hq
 have HQQ := Lib.hid hQ
 have HPUT := Lib.hid hPUT
 have HKK := Lib.hid hK
 obtain ⟨am, cm, rfl, _, _⟩ := R.om.at
 obtain ⟨ap, cp, rfl, _, _⟩ := R.op.at
 clear R hq hQ hPUT hK
 have c0 : W.cell? ⟨b, 0, none⟩ = some (.slice am m.length cm) := cell3_0 R8.out.row
 have c1 : W.cell? ⟨b, 1, none⟩ = some (.slice ap p.length cp) := cell3_1 R8.out.row
 have lb8 : b < W.heap.size := (Array.getElem?_eq_some_iff.1 R8.out.row).1
 have hx16 := cells16 (range_row Q8.out)
 have z0 := hx16.1
 have z1 := hx16.2.1
 have z2 := hx16.2.2.1
 have z3 := hx16.2.2.2.1
 have z4 := hx16.2.2.2.2.1
 have z5 := hx16.2.2.2.2.2.1
 have z6 := hx16.2.2.2.2.2.2.1
 have z7 := hx16.2.2.2.2.2.2.2.1
 have z8 := hx16.2.2.2.2.2.2.2.2.1
 have z9 := hx16.2.2.2.2.2.2.2.2.2.1
 have z10 := hx16.2.2.2.2.2.2.2.2.2.2.1
 have z11 := hx16.2.2.2.2.2.2.2.2.2.2.2.1
 have z12 := hx16.2.2.2.2.2.2.2.2.2.2.2.2.1
 have z13 := hx16.2.2.2.2.2.2.2.2.2.2.2.2.2.1
 have z14 := hx16.2.2.2.2.2.2.2.2.2.2.2.2.2.2.1
 have z15 := hx16.2.2.2.2.2.2.2.2.2.2.2.2.2.2.2
 clear hx16
 simp only [Nat.zero_add] at z1 z2 z3 z4 z5 z6 z7 z8 z9 z10 z11 z12 z13 z14 z15
 have lq : g < W.heap.size := (Array.getElem?_eq_some_iff.1 Q8.out).1
 have fb : W.frozen? ⟨b, 0, none⟩ = false := free3_0 R8.out.row
 have BU : ∀ u : World, (Instr.buildSlice 22 1 #[(0, .agg #[.int .i64 q.s.kind, .string (B q.s.text), .string (B q.s.type), .string (B q.s.lang), .int .i64 q.p.kind, .string (B q.p.text), .string (B q.p.type), .string (B q.p.lang), .int .i64 q.o.kind, .string (B q.o.text), .string (B q.o.type), .string (B q.o.lang), .int .i64 q.g.kind, .string (B q.g.text), .string (B q.g.type), .string (B q.g.lang)])]).run Tryz.prog u = .ok (.slice (some ⟨u.heap.size, 0, none⟩) 1 1) (u.alloc (.cells (quadsC [q]).toArray 56)) := fun u => run_build1 q u
 have R8d := Lib.hid (show Below W.heap.size W (W.drew.alloc (.cells (quadsC [q]).toArray 56)) from (Below.refl W.heap.size W).drew.alloc (Nat.le_refl _) _)
 conv => arg 2; whnf
 go_region_law (refine step_append_q rfl (.tmp 145) (.tmp 147) rfl n1 _ m q rfl (R8.out.om.below R8d.out) _ rfl (heap_alloc_new W.drew _) (by omega) (by have := R8.out.lt; simp; omega) ?_; intro v' w' hO hg hn; obtain ⟨a', c', rfl, _, _⟩ := hO.at; have hrow := (R8.out.below R8d.out).rowM hg; have cc := cell3_0 hrow; have ff := free3_0 hrow; have ll := (Array.getElem?_eq_some_iff.1 hrow).1; have HP := Lib.hid ((R8.out.below R8d.out).putM hO hg hn); clear hO hg hn hrow)
 all_goals
   refine HKK.out _ _ ?_
   conv => arg 2; whnf
   go_wp2_with fail
   have h := HP.out
   simp only [List.length_append, List.length_singleton] at h
   refine bodyPost_ret (results_ln6 _ _ rfl) rfl ?_
   rw [HQQ.out]
   exact ⟨rfl, A ++ [q], _, _, ⟨h, HPUT.out.1, HPUT.out.2.1, HPUT.out.2.2⟩⟩
set_option maxHeartbeats 3200000 in
theorem pline_22M (w : World) (b gm n1 fr j : Nat) (s : List UInt8) (m p A : List QuadL) (vm vp : Value) (W : World) (g : Nat) (q : QuadL) (hlt : j < s.length) (hwq : WfQ q) (hln : A.length < maxLen) (hng : n1 <= g) (e7 : (((s[j]'hlt).toNat : Int) == 45) = true) (j0 : 0 <= (j : Int)) (j1 : (j : Int) < (s.length : Int)) (hm : m.length < 1048576) (hp : p.length < 1048576) (R : PRaw w b gm n1 m p A vm vp W) (hq : W.heap[g]? = some (.cells (quadC q).toArray 56 (0, 0))) (hQ : pStep (.inl (m, p)) (fr, s) = .inl (m ++ [q], p)) (hPUT : (∀ x, x ∈ A ++ [q] ↔ x ∈ m ++ [q] \/ x ∈ p) /\ (A ++ [q]).length = (m ++ [q]).length + (p).length /\ ∀ x ∈ A ++ [q], WfQ x) (K : Act -> World -> Prop) (hK : ∀ a u, lineS22.wp Tryz.prog (bodyPost Tryz.prog Tryz.f29 (fun e W' => PostL w b gm n1 e W' (pStep (.inl (m, p)) (fr, s)))) a u -> K a u) (u3 u4 u5 u6 u8 u10 u11 u12 u13 u14 u15 u16 u17 u18 u19 u20 u21 u22 u23 u24 u25 u26 u27 u28 u29 u30 u31 u32 u33 u34 u35 u36 u37 u38 u39 u40 u41 u42 u43 u44 u45 u46 u47 u48 u49 u50 u51 u52 u53 u54 u55 u56 u57 u58 u59 u60 u61 u62 u63 u64 u65 u66 u67 u68 u69 u70 u71 u72 u73 u74 u75 u76 u77 u78 u79 u80 u81 u82 u83 u84 u85 u86 u87 u88 u89 u90 u91 u92 u93 u94 u95 u96 u97 u98 u99 u100 u101 u102 u103 u104 u105 u106 u107 u108 u109 u110 u111 u112 u113 u114 u115 u116 u117 u118 u119 u120 u121 u122 u123 u124 u125 u126 u127 u128 u129 u130 u131 u132 u133 u134 u135 u136 u137 u138 u139 u140 u141 u142 u143 u144 u145 u146 u147 u148 u149 : Value) :
   lineR22.wp Tryz.prog (Exit.then K (bodyPost Tryz.prog Tryz.f29 (fun e W' => PostL w b gm n1 e W' (pStep (.inl (m, p)) (fr, s))))) { tmps := #[.pointer (some ⟨b, 0, none⟩), .string (B s), .int .i64 (fr : Int), u3, u4, u5, u6, .int .i64 (j : Int), u8, .pointer (some ⟨g, 0, none⟩), u10, u11, u12, u13, u14, u15, u16, u17, u18, u19, u20, u21, u22, u23, u24, u25, u26, u27, u28, u29, u30, u31, u32, u33, u34, u35, u36, u37, u38, u39, u40, u41, u42, u43, u44, u45, u46, u47, u48, u49, u50, u51, u52, u53, u54, u55, u56, u57, u58, u59, u60, u61, u62, u63, u64, u65, u66, u67, u68, u69, u70, u71, u72, u73, u74, u75, u76, u77, u78, u79, u80, u81, u82, u83, u84, u85, u86, u87, u88, u89, u90, u91, u92, u93, u94, u95, u96, u97, u98, u99, u100, u101, u102, u103, u104, u105, u106, u107, u108, u109, u110, u111, u112, u113, u114, u115, u116, u117, u118, u119, u120, u121, u122, u123, u124, u125, u126, u127, u128, u129, u130, u131, u132, u133, u134, u135, u136, u137, u138, u139, u140, u141, u142, u143, u144, u145, u146, u147, u148, u149], defers := [] } W := by
 have P7 := Lib.hid R
 have Q7 := Lib.hid hq
 have HQQ := Lib.hid hQ
 have HPUT := Lib.hid hPUT
 have HKK := Lib.hid hK
 have HM := Lib.hid (And.intro hm hp)
 obtain ⟨am, cm, rfl, _, _⟩ := R.om.at
 obtain ⟨ap, cp, rfl, _, _⟩ := R.op.at
 obtain ⟨W8, hu8, ho8, hg8⟩ := mark_q (W := W.drew) R.mp hln hwq
 have R8 := Lib.hid (PRaw.mark (W := W.drew) (P7.out.below ((Below.refl _ W).drew)) hg8 ho8)
 have Q8 := Lib.hid ((hg8.block g (Array.getElem?_eq_some_iff.1 Q7.out).1 (fun e => by have h1 := Option.some.inj e; have := P7.out.gn; omega)).trans Q7.out)
 clear R hq hQ hPUT hK ho8 hg8
 have c2 : W.cell? ⟨b, 2, none⟩ = some (.map (some gm)) := by simp [World.cell?, P7.out.row]
 have lb : b < W.heap.size := (Array.getElem?_eq_some_iff.1 P7.out.row).1
 have hx16 := cells16 (range_row Q7.out)
 have z0 := hx16.1
 have z1 := hx16.2.1
 have z2 := hx16.2.2.1
 have z3 := hx16.2.2.2.1
 have z4 := hx16.2.2.2.2.1
 have z5 := hx16.2.2.2.2.2.1
 have z6 := hx16.2.2.2.2.2.2.1
 have z7 := hx16.2.2.2.2.2.2.2.1
 have z8 := hx16.2.2.2.2.2.2.2.2.1
 have z9 := hx16.2.2.2.2.2.2.2.2.2.1
 have z10 := hx16.2.2.2.2.2.2.2.2.2.2.1
 have z11 := hx16.2.2.2.2.2.2.2.2.2.2.2.1
 have z12 := hx16.2.2.2.2.2.2.2.2.2.2.2.2.1
 have z13 := hx16.2.2.2.2.2.2.2.2.2.2.2.2.2.1
 have z14 := hx16.2.2.2.2.2.2.2.2.2.2.2.2.2.2.1
 have z15 := hx16.2.2.2.2.2.2.2.2.2.2.2.2.2.2.2
 clear hx16
 simp only [Nat.zero_add] at z1 z2 z3 z4 z5 z6 z7 z8 z9 z10 z11 z12 z13 z14 z15
 have hu8 : (Instr.mapUpdate 69 (.map (some gm)) (.agg #[.int .i64 q.s.kind, .string (B q.s.text), .string (B q.s.type), .string (B q.s.lang), .int .i64 q.p.kind, .string (B q.p.text), .string (B q.p.type), .string (B q.p.lang), .int .i64 q.o.kind, .string (B q.o.text), .string (B q.o.type), .string (B q.o.lang), .int .i64 q.g.kind, .string (B q.g.text), .string (B q.g.type), .string (B q.g.lang)]) (.agg #[])).run Tryz.prog W.drew = .ok () W8 := hu8
 have c0 : W8.cell? ⟨b, 0, none⟩ = some (.slice am m.length cm) := cell3_0 R8.out.row
 have c1 : W8.cell? ⟨b, 1, none⟩ = some (.slice ap p.length cp) := cell3_1 R8.out.row
 have em : ((m.length : Int) == 1048576) = false := beq_eq_false_iff_ne.2 (by omega)
 have ep : ((p.length : Int) == 1048576) = false := beq_eq_false_iff_ne.2 (by omega)
 clear hm hp
 conv => arg 2; whnf
 go_region
 all_goals
   refine HKK.out _ _ ?_
   conv => arg 2; whnf
   go_upto_region 28 with fail
   refine pline_28M w b gm n1 fr j s m p A _ _ W8 g q HM.out.1 R8.out Q8.out HQQ.out HPUT.out _ ?_ _ _ _ _ _ _ _ _ _ _ _ _ _ _ _ _ _ _ _ _ _ _ _ _ _ _ _ _ _ _ _ _ _ _ _ _ _ _ _ _ _ _ _ _ _ _ _ _ _ _ _ _ _ _ _ _ _ _ _ _ _ _ _ _ _ _ _ _ _ _ _ _ _ _ _ _ _ _ _ _ _ _ _ _ _ _ _ _ _ _ _ _ _ _ _ _ _ _ _ _ _ _ _ _ _ _ _ _ _ _ _ _ _ _ _ _ _ _ _ _ _ _ _ _ _ _ _ _ _ _ _ _ _ _ _ _ _ _ _ _ _ _ _ _
   assumption
set_option maxHeartbeats 3200000 in
theorem pline_28P (w : World) (b gm n1 fr j : Nat) (s : List UInt8) (m p A : List QuadL) (vm vp : Value) (W : World) (g : Nat) (q : QuadL) (hl : p.length < 1048576) (R : PRaw w b gm n1 m p (A ++ [q]) vm vp W) (hq : W.heap[g]? = some (.cells (quadC q).toArray 56 (0, 0))) (hQ : pStep (.inl (m, p)) (fr, s) = .inl (m, p ++ [q])) (hPUT : (∀ x, x ∈ A ++ [q] ↔ x ∈ m \/ x ∈ p ++ [q]) /\ (A ++ [q]).length = (m).length + (p ++ [q]).length /\ ∀ x ∈ A ++ [q], WfQ x) (K : Act -> World -> Prop) (hK : ∀ a u, lineS28.wp Tryz.prog (bodyPost Tryz.prog Tryz.f29 (fun e W' => PostL w b gm n1 e W' (pStep (.inl (m, p)) (fr, s)))) a u -> K a u) (u3 u4 u5 u6 u8 u10 u11 u12 u13 u14 u16 u17 u18 u19 u20 u21 u22 u23 u24 u25 u26 u27 u28 u29 u30 u31 u32 u33 u34 u35 u36 u37 u38 u39 u40 u41 u42 u43 u44 u45 u46 u47 u48 u49 u50 u51 u52 u53 u54 u55 u56 u57 u58 u59 u60 u61 u62 u63 u64 u65 u66 u67 u68 u69 u70 u71 u72 u73 u74 u75 u76 u77 u78 u79 u80 u81 u82 u83 u84 u85 u86 u87 u88 u89 u90 u91 u92 u93 u94 u95 u96 u97 u98 u99 u100 u101 u102 u103 u104 u105 u106 u107 u108 u109 u110 u111 u112 u113 u114 u115 u116 u117 u118 u119 u120 u121 u122 u123 u124 u125 u126 u127 u128 u129 u130 u131 u132 u133 u134 u135 u136 u137 u138 u139 u140 u141 u142 u143 u144 u145 u146 u147 u148 u149 : Value) :
   lineR28.wp Tryz.prog (Exit.then K (bodyPost Tryz.prog Tryz.f29 (fun e W' => PostL w b gm n1 e W' (pStep (.inl (m, p)) (fr, s))))) { tmps := #[.pointer (some ⟨b, 0, none⟩), .string (B s), .int .i64 (fr : Int), u3, u4, u5, u6, .int .i64 (j : Int), u8, .pointer (some ⟨g, 0, none⟩), u10, u11, u12, u13, u14, .pointer (some ⟨b, 1, none⟩), u16, u17, u18, u19, u20, u21, u22, u23, u24, u25, u26, u27, u28, u29, u30, u31, u32, u33, u34, u35, u36, u37, u38, u39, u40, u41, u42, u43, u44, u45, u46, u47, u48, u49, u50, u51, u52, u53, u54, u55, u56, u57, u58, u59, u60, u61, u62, u63, u64, u65, u66, u67, u68, u69, u70, u71, u72, u73, u74, u75, u76, u77, u78, u79, u80, u81, u82, u83, u84, u85, u86, u87, u88, u89, u90, u91, u92, u93, u94, u95, u96, u97, u98, u99, u100, u101, u102, u103, u104, u105, u106, u107, u108, u109, u110, u111, u112, u113, u114, u115, u116, u117, u118, u119, u120, u121, u122, u123, u124, u125, u126, u127, u128, u129, u130, u131, u132, u133, u134, u135, u136, u137, u138, u139, u140, u141, u142, u143, u144, u145, u146, u147, u148, u149], defers := [] } W := by
 have R8 := Lib.hid R
 have Q8 := Lib.hid hq
 have HQQ := Lib.hid hQ
 have HPUT := Lib.hid hPUT
 have HKK := Lib.hid hK
 obtain ⟨am, cm, rfl, _, _⟩ := R.om.at
 obtain ⟨ap, cp, rfl, _, _⟩ := R.op.at
 clear R hq hQ hPUT hK
 have c0 : W.cell? ⟨b, 0, none⟩ = some (.slice am m.length cm) := cell3_0 R8.out.row
 have c1 : W.cell? ⟨b, 1, none⟩ = some (.slice ap p.length cp) := cell3_1 R8.out.row
 have lb8 : b < W.heap.size := (Array.getElem?_eq_some_iff.1 R8.out.row).1
 have hx16 := cells16 (range_row Q8.out)
 have z0 := hx16.1
 have z1 := hx16.2.1
 have z2 := hx16.2.2.1
 have z3 := hx16.2.2.2.1
 have z4 := hx16.2.2.2.2.1
 have z5 := hx16.2.2.2.2.2.1
 have z6 := hx16.2.2.2.2.2.2.1
 have z7 := hx16.2.2.2.2.2.2.2.1
 have z8 := hx16.2.2.2.2.2.2.2.2.1
 have z9 := hx16.2.2.2.2.2.2.2.2.2.1
 have z10 := hx16.2.2.2.2.2.2.2.2.2.2.1
 have z11 := hx16.2.2.2.2.2.2.2.2.2.2.2.1
 have z12 := hx16.2.2.2.2.2.2.2.2.2.2.2.2.1
 have z13 := hx16.2.2.2.2.2.2.2.2.2.2.2.2.2.1
 have z14 := hx16.2.2.2.2.2.2.2.2.2.2.2.2.2.2.1
 have z15 := hx16.2.2.2.2.2.2.2.2.2.2.2.2.2.2.2
 clear hx16
 simp only [Nat.zero_add] at z1 z2 z3 z4 z5 z6 z7 z8 z9 z10 z11 z12 z13 z14 z15
 have lq : g < W.heap.size := (Array.getElem?_eq_some_iff.1 Q8.out).1
 have fb : W.frozen? ⟨b, 1, none⟩ = false := free3_1 R8.out.row
 have BU : ∀ u : World, (Instr.buildSlice 22 1 #[(0, .agg #[.int .i64 q.s.kind, .string (B q.s.text), .string (B q.s.type), .string (B q.s.lang), .int .i64 q.p.kind, .string (B q.p.text), .string (B q.p.type), .string (B q.p.lang), .int .i64 q.o.kind, .string (B q.o.text), .string (B q.o.type), .string (B q.o.lang), .int .i64 q.g.kind, .string (B q.g.text), .string (B q.g.type), .string (B q.g.lang)])]).run Tryz.prog u = .ok (.slice (some ⟨u.heap.size, 0, none⟩) 1 1) (u.alloc (.cells (quadsC [q]).toArray 56)) := fun u => run_build1 q u
 have R8d := Lib.hid (show Below W.heap.size W (W.drew.alloc (.cells (quadsC [q]).toArray 56)) from (Below.refl W.heap.size W).drew.alloc (Nat.le_refl _) _)
 conv => arg 2; whnf
 go_region_law (refine step_append_q rfl (.tmp 145) (.tmp 147) rfl n1 _ p q rfl (R8.out.op.below R8d.out) _ rfl (heap_alloc_new W.drew _) (by omega) (by have := R8.out.lt; simp; omega) ?_; intro v' w' hO hg hn; obtain ⟨a', c', rfl, _, _⟩ := hO.at; have hrow := (R8.out.below R8d.out).rowP hg; have cc := cell3_1 hrow; have ff := free3_1 hrow; have ll := (Array.getElem?_eq_some_iff.1 hrow).1; have HP := Lib.hid ((R8.out.below R8d.out).putP hO hg hn); clear hO hg hn hrow)
 all_goals
   refine HKK.out _ _ ?_
   conv => arg 2; whnf
   go_wp2_with fail
   have h := HP.out
   simp only [List.length_append, List.length_singleton] at h
   refine bodyPost_ret (results_ln6 _ _ rfl) rfl ?_
   rw [HQQ.out]
   exact ⟨rfl, A ++ [q], _, _, ⟨h, HPUT.out.1, HPUT.out.2.1, HPUT.out.2.2⟩⟩
set_option maxHeartbeats 3200000 in
theorem pline_22P (w : World) (b gm n1 fr j : Nat) (s : List UInt8) (m p A : List QuadL) (vm vp : Value) (W : World) (g : Nat) (q : QuadL) (hlt : j < s.length) (hwq : WfQ q) (hln : A.length < maxLen) (hng : n1 <= g) (e7 : (((s[j]'hlt).toNat : Int) == 45) = false) (j0 : 0 <= (j : Int)) (j1 : (j : Int) < (s.length : Int)) (hm : m.length < 1048576) (hp : p.length < 1048576) (R : PRaw w b gm n1 m p A vm vp W) (hq : W.heap[g]? = some (.cells (quadC q).toArray 56 (0, 0))) (hQ : pStep (.inl (m, p)) (fr, s) = .inl (m, p ++ [q])) (hPUT : (∀ x, x ∈ A ++ [q] ↔ x ∈ m \/ x ∈ p ++ [q]) /\ (A ++ [q]).length = (m).length + (p ++ [q]).length /\ ∀ x ∈ A ++ [q], WfQ x) (K : Act -> World -> Prop) (hK : ∀ a u, lineS22.wp Tryz.prog (bodyPost Tryz.prog Tryz.f29 (fun e W' => PostL w b gm n1 e W' (pStep (.inl (m, p)) (fr, s)))) a u -> K a u) (u3 u4 u5 u6 u8 u10 u11 u12 u13 u14 u15 u16 u17 u18 u19 u20 u21 u22 u23 u24 u25 u26 u27 u28 u29 u30 u31 u32 u33 u34 u35 u36 u37 u38 u39 u40 u41 u42 u43 u44 u45 u46 u47 u48 u49 u50 u51 u52 u53 u54 u55 u56 u57 u58 u59 u60 u61 u62 u63 u64 u65 u66 u67 u68 u69 u70 u71 u72 u73 u74 u75 u76 u77 u78 u79 u80 u81 u82 u83 u84 u85 u86 u87 u88 u89 u90 u91 u92 u93 u94 u95 u96 u97 u98 u99 u100 u101 u102 u103 u104 u105 u106 u107 u108 u109 u110 u111 u112 u113 u114 u115 u116 u117 u118 u119 u120 u121 u122 u123 u124 u125 u126 u127 u128 u129 u130 u131 u132 u133 u134 u135 u136 u137 u138 u139 u140 u141 u142 u143 u144 u145 u146 u147 u148 u149 : Value) :
   lineR22.wp Tryz.prog (Exit.then K (bodyPost Tryz.prog Tryz.f29 (fun e W' => PostL w b gm n1 e W' (pStep (.inl (m, p)) (fr, s))))) { tmps := #[.pointer (some ⟨b, 0, none⟩), .string (B s), .int .i64 (fr : Int), u3, u4, u5, u6, .int .i64 (j : Int), u8, .pointer (some ⟨g, 0, none⟩), u10, u11, u12, u13, u14, u15, u16, u17, u18, u19, u20, u21, u22, u23, u24, u25, u26, u27, u28, u29, u30, u31, u32, u33, u34, u35, u36, u37, u38, u39, u40, u41, u42, u43, u44, u45, u46, u47, u48, u49, u50, u51, u52, u53, u54, u55, u56, u57, u58, u59, u60, u61, u62, u63, u64, u65, u66, u67, u68, u69, u70, u71, u72, u73, u74, u75, u76, u77, u78, u79, u80, u81, u82, u83, u84, u85, u86, u87, u88, u89, u90, u91, u92, u93, u94, u95, u96, u97, u98, u99, u100, u101, u102, u103, u104, u105, u106, u107, u108, u109, u110, u111, u112, u113, u114, u115, u116, u117, u118, u119, u120, u121, u122, u123, u124, u125, u126, u127, u128, u129, u130, u131, u132, u133, u134, u135, u136, u137, u138, u139, u140, u141, u142, u143, u144, u145, u146, u147, u148, u149], defers := [] } W := by
 have P7 := Lib.hid R
 have Q7 := Lib.hid hq
 have HQQ := Lib.hid hQ
 have HPUT := Lib.hid hPUT
 have HKK := Lib.hid hK
 have HM := Lib.hid (And.intro hm hp)
 obtain ⟨am, cm, rfl, _, _⟩ := R.om.at
 obtain ⟨ap, cp, rfl, _, _⟩ := R.op.at
 obtain ⟨W8, hu8, ho8, hg8⟩ := mark_q (W := W.drew) R.mp hln hwq
 have R8 := Lib.hid (PRaw.mark (W := W.drew) (P7.out.below ((Below.refl _ W).drew)) hg8 ho8)
 have Q8 := Lib.hid ((hg8.block g (Array.getElem?_eq_some_iff.1 Q7.out).1 (fun e => by have h1 := Option.some.inj e; have := P7.out.gn; omega)).trans Q7.out)
 clear R hq hQ hPUT hK ho8 hg8
 have c2 : W.cell? ⟨b, 2, none⟩ = some (.map (some gm)) := by simp [World.cell?, P7.out.row]
 have lb : b < W.heap.size := (Array.getElem?_eq_some_iff.1 P7.out.row).1
 have hx16 := cells16 (range_row Q7.out)
 have z0 := hx16.1
 have z1 := hx16.2.1
 have z2 := hx16.2.2.1
 have z3 := hx16.2.2.2.1
 have z4 := hx16.2.2.2.2.1
 have z5 := hx16.2.2.2.2.2.1
 have z6 := hx16.2.2.2.2.2.2.1
 have z7 := hx16.2.2.2.2.2.2.2.1
 have z8 := hx16.2.2.2.2.2.2.2.2.1
 have z9 := hx16.2.2.2.2.2.2.2.2.2.1
 have z10 := hx16.2.2.2.2.2.2.2.2.2.2.1
 have z11 := hx16.2.2.2.2.2.2.2.2.2.2.2.1
 have z12 := hx16.2.2.2.2.2.2.2.2.2.2.2.2.1
 have z13 := hx16.2.2.2.2.2.2.2.2.2.2.2.2.2.1
 have z14 := hx16.2.2.2.2.2.2.2.2.2.2.2.2.2.2.1
 have z15 := hx16.2.2.2.2.2.2.2.2.2.2.2.2.2.2.2
 clear hx16
 simp only [Nat.zero_add] at z1 z2 z3 z4 z5 z6 z7 z8 z9 z10 z11 z12 z13 z14 z15
 have hu8 : (Instr.mapUpdate 69 (.map (some gm)) (.agg #[.int .i64 q.s.kind, .string (B q.s.text), .string (B q.s.type), .string (B q.s.lang), .int .i64 q.p.kind, .string (B q.p.text), .string (B q.p.type), .string (B q.p.lang), .int .i64 q.o.kind, .string (B q.o.text), .string (B q.o.type), .string (B q.o.lang), .int .i64 q.g.kind, .string (B q.g.text), .string (B q.g.type), .string (B q.g.lang)]) (.agg #[])).run Tryz.prog W.drew = .ok () W8 := hu8
 have c0 : W8.cell? ⟨b, 0, none⟩ = some (.slice am m.length cm) := cell3_0 R8.out.row
 have c1 : W8.cell? ⟨b, 1, none⟩ = some (.slice ap p.length cp) := cell3_1 R8.out.row
 have em : ((m.length : Int) == 1048576) = false := beq_eq_false_iff_ne.2 (by omega)
 have ep : ((p.length : Int) == 1048576) = false := beq_eq_false_iff_ne.2 (by omega)
 clear hm hp
 conv => arg 2; whnf
 go_region
 all_goals
   refine HKK.out _ _ ?_
   conv => arg 2; whnf
   go_upto_region 28 with fail
   refine pline_28P w b gm n1 fr j s m p A _ _ W8 g q HM.out.2 R8.out Q8.out HQQ.out HPUT.out _ ?_ _ _ _ _ _ _ _ _ _ _ _ _ _ _ _ _ _ _ _ _ _ _ _ _ _ _ _ _ _ _ _ _ _ _ _ _ _ _ _ _ _ _ _ _ _ _ _ _ _ _ _ _ _ _ _ _ _ _ _ _ _ _ _ _ _ _ _ _ _ _ _ _ _ _ _ _ _ _ _ _ _ _ _ _ _ _ _ _ _ _ _ _ _ _ _ _ _ _ _ _ _ _ _ _ _ _ _ _ _ _ _ _ _ _ _ _ _ _ _ _ _ _ _ _ _ _ _ _ _ _ _ _ _ _ _ _ _ _ _ _ _ _ _ _
   assumption
set_option maxHeartbeats 3200000 in
theorem pline_minusold (w : World) (b gm n1 fr : Nat) (s : List UInt8) (m p A : List QuadL) (vm vp : Value) (W : World) (P : PAt w b gm n1 m p A vm vp W) (hs : s.length <= 16777216) (hf : fr <= 67108864) (hx : blkF s 0 < s.length) (h : s[blkF s 0] = 45) (q : QuadL) (hl : lineAt (s.drop (blkF s 0 + 1)) = .inl (some q)) (hq : q ∈ A) (hT : TabAt w) (hM : MaxAt w) (hE : ErrType w) :
   Calls Tryz.prog 29 #[.pointer (some ⟨b, 0, none⟩), .string (B s), .int .i64 (fr : Int)] W fun e W' => PostL w b gm n1 e W' (pStep (.inl (m, p)) (fr, s)) := by
 have HNM : Hid (q ∈ m \/ q ∈ p) := Lib.hid ((P.mem q).1 hq)
 have HWF : Hid ((∀ x ∈ A, WfQ x) /\ WfQ q) := Lib.hid ⟨P.wf, lineAt_wf hl⟩
 have HQA : Hid (decide (q ∈ A) = true) := Lib.hid (decide_eq_true hq)
 have HN3 : Hid (n1 <= W.heap.size) := Lib.hid P.raw.lt
 have H35 := Lib.hid h
 have HL := Lib.hid hl
 clear h hl
 have LC := Lib.hid (fun (t : List UInt8) (ht : t.length <= 16777216) => lineE_l t W (hT.below P.raw.bw) (hM.below P.raw.bw) ht)
 have HET := Lib.hid (hE.below P.raw.bw)
 have PP := Lib.hid P
 have HX := Lib.hid hx
 have hwb := P.raw.bw.size
 clear P hT hM hE
 go_enter Tryz.func29, Tryz.ntmps29
 go_wp2_with fail
 go_loopw [7] (fun z wr => ∃ j : Nat, z = .int .i64 j /\ j <= s.length /\ Hid (blkF s 0 = blkF s j) /\ Hid (wr = W)) (fun z _ => s.length - (intOf z).toNat)
 case atStart => exact ⟨0, rfl, Nat.zero_le _, Lib.hid rfl, Lib.hid rfl⟩
 case round =>
   obtain ⟨j, rfl, hj, HS, HW⟩ := hrel
   obtain rfl : W = wr := HW.out.symm
   clear HW
   by_cases hlt : j < s.length
   case neg =>
     exact absurd HX.out (by rw [HS.out, blkF_end (by omega)]; omega)
   have e1 : decide ((j : Int) < (s.length : Int)) = true := decide_eq_true (by omega)
   have e1n : decide (j < s.length) = true := decide_eq_true hlt
   have j0 : 0 <= (j : Int) := by omega
   have j1 : (j : Int) < (s.length : Int) := by omega
   have hgj : s.getD j 0 = s[j] := by simp [List.getD, hlt]
   by_cases h32 : s[j] = 32
   · have e2 : ((s[j].toNat : Int) == 32) = true := byte_eq (d := 32) h32
     have HE : Hid (blkF s 0 = blkF s (j + 1)) := Lib.hid (by rw [HS.out, blkF_go hlt (by rw [hgj]; exact .inl h32)])
     clear h32 HS hgj HX
     go_wp2_with fail
     go_roundw
     case rel => exact ⟨j + 1, by go_num, hlt, HE, Lib.hid (by first | rfl | trivial)⟩
     case measure => simp [intOf]; omega
   have e2 : ((s[j].toNat : Int) == 32) = false := byte_ne (d := 32) h32
   by_cases h9 : s[j] = 9
   · have e3 : ((s[j].toNat : Int) == 9) = true := byte_eq (d := 9) h9
     have HE : Hid (blkF s 0 = blkF s (j + 1)) := Lib.hid (by rw [HS.out, blkF_go hlt (by rw [hgj]; exact .inr h9)])
     clear h32 h9 HS hgj HX
     go_wp2_with fail
     go_roundw
     case rel => exact ⟨j + 1, by go_num, hlt, HE, Lib.hid (by first | rfl | trivial)⟩
     case measure => simp [intOf]; omega
   have e3 : ((s[j].toNat : Int) == 9) = false := byte_ne (d := 9) h9
   have HB : Hid (blkF s 0 = j) := Lib.hid (by rw [HS.out, blkF_stop hlt (by rw [hgj]; exact fun h => h.elim h32 h9)])
   have e5 : ((j : Int) == (s.length : Int)) = false := beq_eq_false_iff_ne.2 (by omega)
   have j2 : (j : Int) <= (s.length : Int) := by omega
   have j3 : 0 <= (j : Int) + 1 := by omega
   have j4 : (j : Int) + 1 <= (s.length : Int) := by omega
   clear h32 h9 HS hgj
   have X1 : s[j] = 45 := by
     have := H35.out
     simp only [HB.out] at this
     exact this
   have e6 : ((s[j].toNat : Int) == 35) = false := byte_ne (d := 35) (by rw [X1]; decide)
   have e7 : ((s[j].toNat : Int) == 45) = true := byte_eq (d := 45) X1
   have LN0 := LC.out (s.drop (j + 1)) (by simp; omega)
   have hl := HL.out
   rw [HB.out] at hl
   rw [hl] at LN0
   have hb1 : (s[j] == 43) = false := by rw [X1]; rfl
   have HQ : Hid (pStep (.inl (m, p)) (fr, s) = .inr (fr + j, 230)) := Lib.hid (by
     have h1 := ((pStep_of (m := m) (p := p) (x := (fr, s)) rfl).2.2 _ _ _ ((pl_sign' hlt HB.out (.inl X1) hl).2.2 q rfl))
     rw [hb1] at h1
     exact h1.1 HNM.out)
   have e9 : ((j : Int) + 1 == (j : Int)) = false := beq_eq_false_iff_ne.2 (by omega)
   have LN0 := Lib.hid LN0
   clear X1 H35 HL hl LC hb1
   go_upto_region 19 with (first
     | (go_at_call 58; (with_reducible refine LN0.out.mono ?_); rintro e w3 ⟨rfl, hb3⟩; have B3 := Lib.hid hb3; have hs3 := hb3.size; clear hb3)
     | (go_at_call 59; (with_reducible refine (as_nil _ _).mono ?_); rintro e w6 ⟨rfl, hw6⟩; have P6 := Lib.hid (PP.out.below (hw6 ▸ ((B3.out.alloc hs3 (.cells #[.int .i64 q.s.kind, .string (B q.s.text), .string (B q.s.type), .string (B q.s.lang), .int .i64 q.p.kind, .string (B q.p.text), .string (B q.p.type), .string (B q.p.lang), .int .i64 q.o.kind, .string (B q.o.text), .string (B q.o.type), .string (B q.o.lang), .int .i64 q.g.kind, .string (B q.g.text), .string (B q.g.type), .string (B q.g.lang)] 56)).alloc (by simp; omega) (.cells #[.pointer none] 77)))); have Q6 := Lib.hid (show w6.heap[w3.heap.size]? = some (.cells (quadC q).toArray 56 (0, 0)) from hw6 ▸ ((heap_alloc_old _ _ (by simp)).trans (heap_alloc_new w3 _))); clear hw6))
   have c2 : w6.cell? ⟨b, 2, none⟩ = some (.map (some gm)) := by simp [World.cell?, P6.out.raw.row]
   have lb : b < w6.heap.size := (Array.getElem?_eq_some_iff.1 P6.out.raw.row).1
   have hx16 := cells16 (range_row Q6.out)
   have z0 := hx16.1
   have z1 := hx16.2.1
   have z2 := hx16.2.2.1
   have z3 := hx16.2.2.2.1
   have z4 := hx16.2.2.2.2.1
   have z5 := hx16.2.2.2.2.2.1
   have z6 := hx16.2.2.2.2.2.2.1
   have z7 := hx16.2.2.2.2.2.2.2.1
   have z8 := hx16.2.2.2.2.2.2.2.2.1
   have z9 := hx16.2.2.2.2.2.2.2.2.2.1
   have z10 := hx16.2.2.2.2.2.2.2.2.2.2.1
   have z11 := hx16.2.2.2.2.2.2.2.2.2.2.2.1
   have z12 := hx16.2.2.2.2.2.2.2.2.2.2.2.2.1
   have z13 := hx16.2.2.2.2.2.2.2.2.2.2.2.2.2.1
   have z14 := hx16.2.2.2.2.2.2.2.2.2.2.2.2.2.2.1
   have z15 := hx16.2.2.2.2.2.2.2.2.2.2.2.2.2.2.2
   clear hx16
   simp only [Nat.zero_add] at z1 z2 z3 z4 z5 z6 z7 z8 z9 z10 z11 z12 z13 z14 z15
   have lq : w3.heap.size < w6.heap.size := (Array.getElem?_eq_some_iff.1 Q6.out).1
   have hk6 : (Instr.lookup 69 (.map (some gm)) (.agg #[.int .i64 q.s.kind, .string (B q.s.text), .string (B q.s.type), .string (B q.s.lang), .int .i64 q.p.kind, .string (B q.p.text), .string (B q.p.type), .string (B q.p.lang), .int .i64 q.o.kind, .string (B q.o.text), .string (B q.o.type), .string (B q.o.lang), .int .i64 q.g.kind, .string (B q.g.text), .string (B q.g.type), .string (B q.g.lang)]) true).run Tryz.prog w6.drew = .ok (.tuple #[.agg #[], .bool true]) w6.drew := by
     have := look_q (W := w6.drew) P6.out.raw.mp HWF.out.1 HWF.out.2
     rw [HQA.out] at this
     exact this
   have B6' := ((Below.refl w6.heap.size w6).alloc (Nat.le_refl _) (.cells #[] 114)).drew
   have hk6a : (Instr.lookup 69 (.map (some gm)) (.agg #[.int .i64 q.s.kind, .string (B q.s.text), .string (B q.s.type), .string (B q.s.lang), .int .i64 q.p.kind, .string (B q.p.text), .string (B q.p.type), .string (B q.p.lang), .int .i64 q.o.kind, .string (B q.o.text), .string (B q.o.type), .string (B q.o.lang), .int .i64 q.g.kind, .string (B q.g.text), .string (B q.g.type), .string (B q.g.lang)]) true).run Tryz.prog (w6.alloc (.cells #[] 114)).drew = .ok (.tuple #[.agg #[], .bool true]) (w6.alloc (.cells #[] 114)).drew := by
     have := look_q (P6.out.raw.below B6').mp HWF.out.1 HWF.out.2
     rw [HQA.out] at this
     exact this
   clear B6'
   go_region
   all_goals (go_wp2_with (first
     | (go_at_call 57; (with_reducible refine (patchAt_l _ _ _).mono ?_); rintro e w7 ⟨rfl, rfl⟩)))
   all_goals go_ret
   all_goals rw [HQ.out]
   all_goals exact ⟨⟨_, rfl, (by
     have h := errAt_new (u := w6.alloc (.cells #[] 114)) (p := fr + j) (P := (fr : Int) + (j : Int)) (n := 230) (by omega)
     rw [World.size_alloc] at h
     exact h)⟩, ((P6.out.raw.bw.alloc P6.out.raw.bw.size _).alloc (by have := P6.out.raw.bw.size; simp; omega) _).drew⟩
set_option maxHeartbeats 3200000 in
theorem pline_plusold (w : World) (b gm n1 fr : Nat) (s : List UInt8) (m p A : List QuadL) (vm vp : Value) (W : World) (P : PAt w b gm n1 m p A vm vp W) (hs : s.length <= 16777216) (hf : fr <= 67108864) (hx : blkF s 0 < s.length) (h : s[blkF s 0] = 43) (q : QuadL) (hl : lineAt (s.drop (blkF s 0 + 1)) = .inl (some q)) (hq : q ∈ A) (hT : TabAt w) (hM : MaxAt w) (hE : ErrType w) :
   Calls Tryz.prog 29 #[.pointer (some ⟨b, 0, none⟩), .string (B s), .int .i64 (fr : Int)] W fun e W' => PostL w b gm n1 e W' (pStep (.inl (m, p)) (fr, s)) := by
 have HNM : Hid (q ∈ m \/ q ∈ p) := Lib.hid ((P.mem q).1 hq)
 have HWF : Hid ((∀ x ∈ A, WfQ x) /\ WfQ q) := Lib.hid ⟨P.wf, lineAt_wf hl⟩
 have HQA : Hid (decide (q ∈ A) = true) := Lib.hid (decide_eq_true hq)
 have HN3 : Hid (n1 <= W.heap.size) := Lib.hid P.raw.lt
 have H35 := Lib.hid h
 have HL := Lib.hid hl
 clear h hl
 have LC := Lib.hid (fun (t : List UInt8) (ht : t.length <= 16777216) => lineE_l t W (hT.below P.raw.bw) (hM.below P.raw.bw) ht)
 have HET := Lib.hid (hE.below P.raw.bw)
 have PP := Lib.hid P
 have HX := Lib.hid hx
 have hwb := P.raw.bw.size
 clear P hT hM hE
 go_enter Tryz.func29, Tryz.ntmps29
 go_wp2_with fail
 go_loopw [7] (fun z wr => ∃ j : Nat, z = .int .i64 j /\ j <= s.length /\ Hid (blkF s 0 = blkF s j) /\ Hid (wr = W)) (fun z _ => s.length - (intOf z).toNat)
 case atStart => exact ⟨0, rfl, Nat.zero_le _, Lib.hid rfl, Lib.hid rfl⟩
 case round =>
   obtain ⟨j, rfl, hj, HS, HW⟩ := hrel
   obtain rfl : W = wr := HW.out.symm
   clear HW
   by_cases hlt : j < s.length
   case neg =>
     exact absurd HX.out (by rw [HS.out, blkF_end (by omega)]; omega)
   have e1 : decide ((j : Int) < (s.length : Int)) = true := decide_eq_true (by omega)
   have e1n : decide (j < s.length) = true := decide_eq_true hlt
   have j0 : 0 <= (j : Int) := by omega
   have j1 : (j : Int) < (s.length : Int) := by omega
   have hgj : s.getD j 0 = s[j] := by simp [List.getD, hlt]
   by_cases h32 : s[j] = 32
   · have e2 : ((s[j].toNat : Int) == 32) = true := byte_eq (d := 32) h32
     have HE : Hid (blkF s 0 = blkF s (j + 1)) := Lib.hid (by rw [HS.out, blkF_go hlt (by rw [hgj]; exact .inl h32)])
     clear h32 HS hgj HX
     go_wp2_with fail
     go_roundw
     case rel => exact ⟨j + 1, by go_num, hlt, HE, Lib.hid (by first | rfl | trivial)⟩
     case measure => simp [intOf]; omega
   have e2 : ((s[j].toNat : Int) == 32) = false := byte_ne (d := 32) h32
   by_cases h9 : s[j] = 9
   · have e3 : ((s[j].toNat : Int) == 9) = true := byte_eq (d := 9) h9
     have HE : Hid (blkF s 0 = blkF s (j + 1)) := Lib.hid (by rw [HS.out, blkF_go hlt (by rw [hgj]; exact .inr h9)])
     clear h32 h9 HS hgj HX
     go_wp2_with fail
     go_roundw
     case rel => exact ⟨j + 1, by go_num, hlt, HE, Lib.hid (by first | rfl | trivial)⟩
     case measure => simp [intOf]; omega
   have e3 : ((s[j].toNat : Int) == 9) = false := byte_ne (d := 9) h9
   have HB : Hid (blkF s 0 = j) := Lib.hid (by rw [HS.out, blkF_stop hlt (by rw [hgj]; exact fun h => h.elim h32 h9)])
   have e5 : ((j : Int) == (s.length : Int)) = false := beq_eq_false_iff_ne.2 (by omega)
   have j2 : (j : Int) <= (s.length : Int) := by omega
   have j3 : 0 <= (j : Int) + 1 := by omega
   have j4 : (j : Int) + 1 <= (s.length : Int) := by omega
   clear h32 h9 HS hgj
   have X1 : s[j] = 43 := by
     have := H35.out
     simp only [HB.out] at this
     exact this
   have e6 : ((s[j].toNat : Int) == 35) = false := byte_ne (d := 35) (by rw [X1]; decide)
   have e7 : ((s[j].toNat : Int) == 45) = false := byte_ne (d := 45) (by rw [X1]; decide)
   have e8 : ((s[j].toNat : Int) == 43) = true := byte_eq (d := 43) X1
   have LN0 := LC.out (s.drop (j + 1)) (by simp; omega)
   have hl := HL.out
   rw [HB.out] at hl
   rw [hl] at LN0
   have hb1 : (s[j] == 43) = true := by rw [X1]; rfl
   have HQ : Hid (pStep (.inl (m, p)) (fr, s) = .inr (fr + j, 230)) := Lib.hid (by
     have h1 := ((pStep_of (m := m) (p := p) (x := (fr, s)) rfl).2.2 _ _ _ ((pl_sign' hlt HB.out (.inr X1) hl).2.2 q rfl))
     rw [hb1] at h1
     exact h1.1 HNM.out)
   have e9 : ((j : Int) + 1 == (j : Int)) = false := beq_eq_false_iff_ne.2 (by omega)
   have LN0 := Lib.hid LN0
   clear X1 H35 HL hl LC hb1
   go_upto_region 19 with (first
     | (go_at_call 58; (with_reducible refine LN0.out.mono ?_); rintro e w3 ⟨rfl, hb3⟩; have B3 := Lib.hid hb3; have hs3 := hb3.size; clear hb3)
     | (go_at_call 59; (with_reducible refine (as_nil _ _).mono ?_); rintro e w6 ⟨rfl, hw6⟩; have P6 := Lib.hid (PP.out.below (hw6 ▸ ((B3.out.alloc hs3 (.cells #[.int .i64 q.s.kind, .string (B q.s.text), .string (B q.s.type), .string (B q.s.lang), .int .i64 q.p.kind, .string (B q.p.text), .string (B q.p.type), .string (B q.p.lang), .int .i64 q.o.kind, .string (B q.o.text), .string (B q.o.type), .string (B q.o.lang), .int .i64 q.g.kind, .string (B q.g.text), .string (B q.g.type), .string (B q.g.lang)] 56)).alloc (by simp; omega) (.cells #[.pointer none] 77)))); have Q6 := Lib.hid (show w6.heap[w3.heap.size]? = some (.cells (quadC q).toArray 56 (0, 0)) from hw6 ▸ ((heap_alloc_old _ _ (by simp)).trans (heap_alloc_new w3 _))); clear hw6))
   have c2 : w6.cell? ⟨b, 2, none⟩ = some (.map (some gm)) := by simp [World.cell?, P6.out.raw.row]
   have lb : b < w6.heap.size := (Array.getElem?_eq_some_iff.1 P6.out.raw.row).1
   have hx16 := cells16 (range_row Q6.out)
   have z0 := hx16.1
   have z1 := hx16.2.1
   have z2 := hx16.2.2.1
   have z3 := hx16.2.2.2.1
   have z4 := hx16.2.2.2.2.1
   have z5 := hx16.2.2.2.2.2.1
   have z6 := hx16.2.2.2.2.2.2.1
   have z7 := hx16.2.2.2.2.2.2.2.1
   have z8 := hx16.2.2.2.2.2.2.2.2.1
   have z9 := hx16.2.2.2.2.2.2.2.2.2.1
   have z10 := hx16.2.2.2.2.2.2.2.2.2.2.1
   have z11 := hx16.2.2.2.2.2.2.2.2.2.2.2.1
   have z12 := hx16.2.2.2.2.2.2.2.2.2.2.2.2.1
   have z13 := hx16.2.2.2.2.2.2.2.2.2.2.2.2.2.1
   have z14 := hx16.2.2.2.2.2.2.2.2.2.2.2.2.2.2.1
   have z15 := hx16.2.2.2.2.2.2.2.2.2.2.2.2.2.2.2
   clear hx16
   simp only [Nat.zero_add] at z1 z2 z3 z4 z5 z6 z7 z8 z9 z10 z11 z12 z13 z14 z15
   have lq : w3.heap.size < w6.heap.size := (Array.getElem?_eq_some_iff.1 Q6.out).1
   have hk6 : (Instr.lookup 69 (.map (some gm)) (.agg #[.int .i64 q.s.kind, .string (B q.s.text), .string (B q.s.type), .string (B q.s.lang), .int .i64 q.p.kind, .string (B q.p.text), .string (B q.p.type), .string (B q.p.lang), .int .i64 q.o.kind, .string (B q.o.text), .string (B q.o.type), .string (B q.o.lang), .int .i64 q.g.kind, .string (B q.g.text), .string (B q.g.type), .string (B q.g.lang)]) true).run Tryz.prog w6.drew = .ok (.tuple #[.agg #[], .bool true]) w6.drew := by
     have := look_q (W := w6.drew) P6.out.raw.mp HWF.out.1 HWF.out.2
     rw [HQA.out] at this
     exact this
   have B6' := ((Below.refl w6.heap.size w6).alloc (Nat.le_refl _) (.cells #[] 114)).drew
   have hk6a : (Instr.lookup 69 (.map (some gm)) (.agg #[.int .i64 q.s.kind, .string (B q.s.text), .string (B q.s.type), .string (B q.s.lang), .int .i64 q.p.kind, .string (B q.p.text), .string (B q.p.type), .string (B q.p.lang), .int .i64 q.o.kind, .string (B q.o.text), .string (B q.o.type), .string (B q.o.lang), .int .i64 q.g.kind, .string (B q.g.text), .string (B q.g.type), .string (B q.g.lang)]) true).run Tryz.prog (w6.alloc (.cells #[] 114)).drew = .ok (.tuple #[.agg #[], .bool true]) (w6.alloc (.cells #[] 114)).drew := by
     have := look_q (P6.out.raw.below B6').mp HWF.out.1 HWF.out.2
     rw [HQA.out] at this
     exact this
   clear B6'
   go_region
   all_goals (go_wp2_with (first
     | (go_at_call 57; (with_reducible refine (patchAt_l _ _ _).mono ?_); rintro e w7 ⟨rfl, rfl⟩)))
   all_goals go_ret
   all_goals rw [HQ.out]
   all_goals exact ⟨⟨_, rfl, (by
     have h := errAt_new (u := w6.alloc (.cells #[] 114)) (p := fr + j) (P := (fr : Int) + (j : Int)) (n := 230) (by omega)
     rw [World.size_alloc] at h
     exact h)⟩, ((P6.out.raw.bw.alloc P6.out.raw.bw.size _).alloc (by have := P6.out.raw.bw.size; simp; omega) _).drew⟩
set_option maxHeartbeats 3200000 in
theorem pline_minusnew (w : World) (b gm n1 fr : Nat) (s : List UInt8) (m p A : List QuadL) (vm vp : Value) (W : World) (P : PAt w b gm n1 m p A vm vp W) (hs : s.length <= 16777216) (_hf : fr <= 67108864) (hx : blkF s 0 < s.length) (h : s[blkF s 0] = 45) (q : QuadL) (hl : lineAt (s.drop (blkF s 0 + 1)) = .inl (some q)) (hq : q ∉ A) (hm : m.length < 1048576) (hp : p.length < 1048576) (hT : TabAt w) (hM : MaxAt w) (hE : ErrType w) :
   Calls Tryz.prog 29 #[.pointer (some ⟨b, 0, none⟩), .string (B s), .int .i64 (fr : Int)] W fun e W' => PostL w b gm n1 e W' (pStep (.inl (m, p)) (fr, s)) := by
 have HNM : Hid (¬ (q ∈ m \/ q ∈ p)) := Lib.hid (fun h => hq ((P.mem q).2 h))
 have HWF : Hid ((∀ x ∈ A, WfQ x) /\ WfQ q) := Lib.hid ⟨P.wf, lineAt_wf hl⟩
 have HQA : Hid (decide (q ∈ A) = false) := Lib.hid (decide_eq_false hq)
 have HN3 : Hid (n1 <= W.heap.size) := Lib.hid P.raw.lt
 have HPUT := Lib.hid (P.put (q := q) (m' := m ++ [q]) (p' := p) (lineAt_wf hl) (.inl ⟨rfl, rfl⟩))
 have HLN : Hid (A.length < maxLen) := Lib.hid (by have := P.len; unfold maxLen; omega)
 have H35 := Lib.hid h
 have HL := Lib.hid hl
 clear h hl
 have LC := Lib.hid (fun (t : List UInt8) (ht : t.length <= 16777216) => lineE_l t W (hT.below P.raw.bw) (hM.below P.raw.bw) ht)
 have HET := Lib.hid (hE.below P.raw.bw)
 have PP := Lib.hid P
 have HX := Lib.hid hx
 have hwb := P.raw.bw.size
 clear P hT hM hE
 go_enter Tryz.func29, Tryz.ntmps29
 go_wp2_with fail
 go_loopw [7] (fun z wr => ∃ j : Nat, z = .int .i64 j /\ j <= s.length /\ Hid (blkF s 0 = blkF s j) /\ Hid (wr = W)) (fun z _ => s.length - (intOf z).toNat)
 case atStart => exact ⟨0, rfl, Nat.zero_le _, Lib.hid rfl, Lib.hid rfl⟩
 case round =>
   obtain ⟨j, rfl, hj, HS, HW⟩ := hrel
   obtain rfl : W = wr := HW.out.symm
   clear HW
   by_cases hlt : j < s.length
   case neg =>
     exact absurd HX.out (by rw [HS.out, blkF_end (by omega)]; omega)
   have e1 : decide ((j : Int) < (s.length : Int)) = true := decide_eq_true (by omega)
   have e1n : decide (j < s.length) = true := decide_eq_true hlt
   have j0 : 0 <= (j : Int) := by omega
   have j1 : (j : Int) < (s.length : Int) := by omega
   have hgj : s.getD j 0 = s[j] := by simp [List.getD, hlt]
   by_cases h32 : s[j] = 32
   · have e2 : ((s[j].toNat : Int) == 32) = true := byte_eq (d := 32) h32
     have HE : Hid (blkF s 0 = blkF s (j + 1)) := Lib.hid (by rw [HS.out, blkF_go hlt (by rw [hgj]; exact .inl h32)])
     clear h32 HS hgj HX
     go_wp2_with fail
     go_roundw
     case rel => exact ⟨j + 1, by go_num, hlt, HE, Lib.hid (by first | rfl | trivial)⟩
     case measure => simp [intOf]; omega
   have e2 : ((s[j].toNat : Int) == 32) = false := byte_ne (d := 32) h32
   by_cases h9 : s[j] = 9
   · have e3 : ((s[j].toNat : Int) == 9) = true := byte_eq (d := 9) h9
     have HE : Hid (blkF s 0 = blkF s (j + 1)) := Lib.hid (by rw [HS.out, blkF_go hlt (by rw [hgj]; exact .inr h9)])
     clear h32 h9 HS hgj HX
     go_wp2_with fail
     go_roundw
     case rel => exact ⟨j + 1, by go_num, hlt, HE, Lib.hid (by first | rfl | trivial)⟩
     case measure => simp [intOf]; omega
   have e3 : ((s[j].toNat : Int) == 9) = false := byte_ne (d := 9) h9
   have HB : Hid (blkF s 0 = j) := Lib.hid (by rw [HS.out, blkF_stop hlt (by rw [hgj]; exact fun h => h.elim h32 h9)])
   have e5 : ((j : Int) == (s.length : Int)) = false := beq_eq_false_iff_ne.2 (by omega)
   have j2 : (j : Int) <= (s.length : Int) := by omega
   have j3 : 0 <= (j : Int) + 1 := by omega
   have j4 : (j : Int) + 1 <= (s.length : Int) := by omega
   clear h32 h9 HS hgj
   have X1 : s[j] = 45 := by
     have := H35.out
     simp only [HB.out] at this
     exact this
   have e6 : ((s[j].toNat : Int) == 35) = false := byte_ne (d := 35) (by rw [X1]; decide)
   have e7 : ((s[j].toNat : Int) == 45) = true := byte_eq (d := 45) X1
   have LN0 := LC.out (s.drop (j + 1)) (by simp; omega)
   have hl := HL.out
   rw [HB.out] at hl
   rw [hl] at LN0
   have hb1 : (s[j] == 43) = false := by rw [X1]; rfl
   have HQ : Hid (pStep (.inl (m, p)) (fr, s) = .inl (m ++ [q], p)) := Lib.hid (by
     have h1 := ((pStep_of (m := m) (p := p) (x := (fr, s)) rfl).2.2 _ _ _ ((pl_sign' hlt HB.out (.inl X1) hl).2.2 q rfl))
     rw [hb1] at h1
     exact h1.2 HNM.out)
   have e9 : ((j : Int) + 1 == (j : Int)) = false := beq_eq_false_iff_ne.2 (by omega)
   have LN0 := Lib.hid LN0
   clear X1 H35 HL hl LC hb1
   go_upto_region 19 with (first
     | (go_at_call 58; (with_reducible refine LN0.out.mono ?_); rintro e w3 ⟨rfl, hb3⟩; have B3 := Lib.hid hb3; have hs3 := hb3.size; clear hb3)
     | (go_at_call 59; (with_reducible refine (as_nil _ _).mono ?_); rintro e w6 ⟨rfl, hw6⟩; have P6 := Lib.hid (PP.out.below (hw6 ▸ ((B3.out.alloc hs3 (.cells #[.int .i64 q.s.kind, .string (B q.s.text), .string (B q.s.type), .string (B q.s.lang), .int .i64 q.p.kind, .string (B q.p.text), .string (B q.p.type), .string (B q.p.lang), .int .i64 q.o.kind, .string (B q.o.text), .string (B q.o.type), .string (B q.o.lang), .int .i64 q.g.kind, .string (B q.g.text), .string (B q.g.type), .string (B q.g.lang)] 56)).alloc (by simp; omega) (.cells #[.pointer none] 77)))); have Q6 := Lib.hid (show w6.heap[w3.heap.size]? = some (.cells (quadC q).toArray 56 (0, 0)) from hw6 ▸ ((heap_alloc_old _ _ (by simp)).trans (heap_alloc_new w3 _))); clear hw6))
   go_cut [13, 14] from 101 to 109 (fun x13 x14 wx => x14 = .bool false /\ PAt w b gm n1 m p A vm vp wx /\ wx.heap[w3.heap.size]? = some (.cells (quadC q).toArray 56 (0, 0)))
   case first =>
     have c2 : w6.cell? ⟨b, 2, none⟩ = some (.map (some gm)) := by simp [World.cell?, P6.out.raw.row]
     have lb : b < w6.heap.size := (Array.getElem?_eq_some_iff.1 P6.out.raw.row).1
     have hx16 := cells16 (range_row Q6.out)
     have z0 := hx16.1
     have z1 := hx16.2.1
     have z2 := hx16.2.2.1
     have z3 := hx16.2.2.2.1
     have z4 := hx16.2.2.2.2.1
     have z5 := hx16.2.2.2.2.2.1
     have z6 := hx16.2.2.2.2.2.2.1
     have z7 := hx16.2.2.2.2.2.2.2.1
     have z8 := hx16.2.2.2.2.2.2.2.2.1
     have z9 := hx16.2.2.2.2.2.2.2.2.2.1
     have z10 := hx16.2.2.2.2.2.2.2.2.2.2.1
     have z11 := hx16.2.2.2.2.2.2.2.2.2.2.2.1
     have z12 := hx16.2.2.2.2.2.2.2.2.2.2.2.2.1
     have z13 := hx16.2.2.2.2.2.2.2.2.2.2.2.2.2.1
     have z14 := hx16.2.2.2.2.2.2.2.2.2.2.2.2.2.2.1
     have z15 := hx16.2.2.2.2.2.2.2.2.2.2.2.2.2.2.2
     clear hx16
     simp only [Nat.zero_add] at z1 z2 z3 z4 z5 z6 z7 z8 z9 z10 z11 z12 z13 z14 z15
     have lq : w3.heap.size < w6.heap.size := (Array.getElem?_eq_some_iff.1 Q6.out).1
     have hk6 : (Instr.lookup 69 (.map (some gm)) (.agg #[.int .i64 q.s.kind, .string (B q.s.text), .string (B q.s.type), .string (B q.s.lang), .int .i64 q.p.kind, .string (B q.p.text), .string (B q.p.type), .string (B q.p.lang), .int .i64 q.o.kind, .string (B q.o.text), .string (B q.o.type), .string (B q.o.lang), .int .i64 q.g.kind, .string (B q.g.text), .string (B q.g.type), .string (B q.g.lang)]) true).run Tryz.prog w6.drew = .ok (.tuple #[.agg #[], .bool false]) w6.drew := by
       have := look_q (W := w6.drew) P6.out.raw.mp HWF.out.1 HWF.out.2
       rw [HQA.out] at this
       exact this
     have B6' := ((Below.refl w6.heap.size w6).alloc (Nat.le_refl _) (.cells #[] 114)).drew
     have hk6a : (Instr.lookup 69 (.map (some gm)) (.agg #[.int .i64 q.s.kind, .string (B q.s.text), .string (B q.s.type), .string (B q.s.lang), .int .i64 q.p.kind, .string (B q.p.text), .string (B q.p.type), .string (B q.p.lang), .int .i64 q.o.kind, .string (B q.o.text), .string (B q.o.type), .string (B q.o.lang), .int .i64 q.g.kind, .string (B q.g.text), .string (B q.g.type), .string (B q.g.lang)]) true).run Tryz.prog (w6.alloc (.cells #[] 114)).drew = .ok (.tuple #[.agg #[], .bool false]) (w6.alloc (.cells #[] 114)).drew := by
       have := look_q (P6.out.raw.below B6').mp HWF.out.1 HWF.out.2
       rw [HQA.out] at this
       exact this
     have HB6 := Lib.hid B6'
     clear B6'
     go_region
     all_goals
       go_wp2_with fail
       go_meet
       case rel => exact ⟨rfl, P6.out.below HB6.out, (HB6.out.block _ (Array.getElem?_eq_some_iff.1 Q6.out).1).trans Q6.out⟩
   case rest =>
     obtain ⟨rfl, hp7, hq7⟩ := hcut
     have P7 := Lib.hid hp7
     have Q7 := Lib.hid hq7
     clear hp7 hq7
     go_upto_region 22 with fail
     refine pline_22M w b gm n1 fr j s m p A vm vp wc w3.heap.size q hlt HWF.out.2 HLN.out (Nat.le_trans HN3.out hs3) e7 j0 j1 hm hp P7.out.raw Q7.out HQ.out HPUT.out _ ?_ _ _ _ _ _ _ _ _ _ _ _ _ _ _ _ _ _ _ _ _ _ _ _ _ _ _ _ _ _ _ _ _ _ _ _ _ _ _ _ _ _ _ _ _ _ _ _ _ _ _ _ _ _ _ _ _ _ _ _ _ _ _ _ _ _ _ _ _ _ _ _ _ _ _ _ _ _ _ _ _ _ _ _ _ _ _ _ _ _ _ _ _ _ _ _ _ _ _ _ _ _ _ _ _ _ _ _ _ _ _ _ _ _ _ _ _ _ _ _ _ _ _ _ _ _ _ _ _ _ _ _ _ _ _ _ _ _ _ _ _ _ _ _ _ _
     assumption
set_option maxHeartbeats 3200000 in
theorem pline_plusnew (w : World) (b gm n1 fr : Nat) (s : List UInt8) (m p A : List QuadL) (vm vp : Value) (W : World) (P : PAt w b gm n1 m p A vm vp W) (hs : s.length <= 16777216) (_hf : fr <= 67108864) (hx : blkF s 0 < s.length) (h : s[blkF s 0] = 43) (q : QuadL) (hl : lineAt (s.drop (blkF s 0 + 1)) = .inl (some q)) (hq : q ∉ A) (hm : m.length < 1048576) (hp : p.length < 1048576) (hT : TabAt w) (hM : MaxAt w) (hE : ErrType w) :
   Calls Tryz.prog 29 #[.pointer (some ⟨b, 0, none⟩), .string (B s), .int .i64 (fr : Int)] W fun e W' => PostL w b gm n1 e W' (pStep (.inl (m, p)) (fr, s)) := by
 have HNM : Hid (¬ (q ∈ m \/ q ∈ p)) := Lib.hid (fun h => hq ((P.mem q).2 h))
 have HWF : Hid ((∀ x ∈ A, WfQ x) /\ WfQ q) := Lib.hid ⟨P.wf, lineAt_wf hl⟩
 have HQA : Hid (decide (q ∈ A) = false) := Lib.hid (decide_eq_false hq)
 have HN3 : Hid (n1 <= W.heap.size) := Lib.hid P.raw.lt
 have HPUT := Lib.hid (P.put (q := q) (m' := m) (p' := p ++ [q]) (lineAt_wf hl) (.inr ⟨rfl, rfl⟩))
 have HLN : Hid (A.length < maxLen) := Lib.hid (by have := P.len; unfold maxLen; omega)
 have H35 := Lib.hid h
 have HL := Lib.hid hl
 clear h hl
 have LC := Lib.hid (fun (t : List UInt8) (ht : t.length <= 16777216) => lineE_l t W (hT.below P.raw.bw) (hM.below P.raw.bw) ht)
 have HET := Lib.hid (hE.below P.raw.bw)
 have PP := Lib.hid P
 have HX := Lib.hid hx
 have hwb := P.raw.bw.size
 clear P hT hM hE
 go_enter Tryz.func29, Tryz.ntmps29
 go_wp2_with fail
 go_loopw [7] (fun z wr => ∃ j : Nat, z = .int .i64 j /\ j <= s.length /\ Hid (blkF s 0 = blkF s j) /\ Hid (wr = W)) (fun z _ => s.length - (intOf z).toNat)
 case atStart => exact ⟨0, rfl, Nat.zero_le _, Lib.hid rfl, Lib.hid rfl⟩
 case round =>
   obtain ⟨j, rfl, hj, HS, HW⟩ := hrel
   obtain rfl : W = wr := HW.out.symm
   clear HW
   by_cases hlt : j < s.length
   case neg =>
     exact absurd HX.out (by rw [HS.out, blkF_end (by omega)]; omega)
   have e1 : decide ((j : Int) < (s.length : Int)) = true := decide_eq_true (by omega)
   have e1n : decide (j < s.length) = true := decide_eq_true hlt
   have j0 : 0 <= (j : Int) := by omega
   have j1 : (j : Int) < (s.length : Int) := by omega
   have hgj : s.getD j 0 = s[j] := by simp [List.getD, hlt]
   by_cases h32 : s[j] = 32
   · have e2 : ((s[j].toNat : Int) == 32) = true := byte_eq (d := 32) h32
     have HE : Hid (blkF s 0 = blkF s (j + 1)) := Lib.hid (by rw [HS.out, blkF_go hlt (by rw [hgj]; exact .inl h32)])
     clear h32 HS hgj HX
     go_wp2_with fail
     go_roundw
     case rel => exact ⟨j + 1, by go_num, hlt, HE, Lib.hid (by first | rfl | trivial)⟩
     case measure => simp [intOf]; omega
   have e2 : ((s[j].toNat : Int) == 32) = false := byte_ne (d := 32) h32
   by_cases h9 : s[j] = 9
   · have e3 : ((s[j].toNat : Int) == 9) = true := byte_eq (d := 9) h9
     have HE : Hid (blkF s 0 = blkF s (j + 1)) := Lib.hid (by rw [HS.out, blkF_go hlt (by rw [hgj]; exact .inr h9)])
     clear h32 h9 HS hgj HX
     go_wp2_with fail
     go_roundw
     case rel => exact ⟨j + 1, by go_num, hlt, HE, Lib.hid (by first | rfl | trivial)⟩
     case measure => simp [intOf]; omega
   have e3 : ((s[j].toNat : Int) == 9) = false := byte_ne (d := 9) h9
   have HB : Hid (blkF s 0 = j) := Lib.hid (by rw [HS.out, blkF_stop hlt (by rw [hgj]; exact fun h => h.elim h32 h9)])
   have e5 : ((j : Int) == (s.length : Int)) = false := beq_eq_false_iff_ne.2 (by omega)
   have j2 : (j : Int) <= (s.length : Int) := by omega
   have j3 : 0 <= (j : Int) + 1 := by omega
   have j4 : (j : Int) + 1 <= (s.length : Int) := by omega
   clear h32 h9 HS hgj
   have X1 : s[j] = 43 := by
     have := H35.out
     simp only [HB.out] at this
     exact this
   have e6 : ((s[j].toNat : Int) == 35) = false := byte_ne (d := 35) (by rw [X1]; decide)
   have e7 : ((s[j].toNat : Int) == 45) = false := byte_ne (d := 45) (by rw [X1]; decide)
   have e8 : ((s[j].toNat : Int) == 43) = true := byte_eq (d := 43) X1
   have LN0 := LC.out (s.drop (j + 1)) (by simp; omega)
   have hl := HL.out
   rw [HB.out] at hl
   rw [hl] at LN0
   have hb1 : (s[j] == 43) = true := by rw [X1]; rfl
   have HQ : Hid (pStep (.inl (m, p)) (fr, s) = .inl (m, p ++ [q])) := Lib.hid (by
     have h1 := ((pStep_of (m := m) (p := p) (x := (fr, s)) rfl).2.2 _ _ _ ((pl_sign' hlt HB.out (.inr X1) hl).2.2 q rfl))
     rw [hb1] at h1
     exact h1.2 HNM.out)
   have e9 : ((j : Int) + 1 == (j : Int)) = false := beq_eq_false_iff_ne.2 (by omega)
   have LN0 := Lib.hid LN0
   clear X1 H35 HL hl LC hb1
   go_upto_region 19 with (first
     | (go_at_call 58; (with_reducible refine LN0.out.mono ?_); rintro e w3 ⟨rfl, hb3⟩; have B3 := Lib.hid hb3; have hs3 := hb3.size; clear hb3)
     | (go_at_call 59; (with_reducible refine (as_nil _ _).mono ?_); rintro e w6 ⟨rfl, hw6⟩; have P6 := Lib.hid (PP.out.below (hw6 ▸ ((B3.out.alloc hs3 (.cells #[.int .i64 q.s.kind, .string (B q.s.text), .string (B q.s.type), .string (B q.s.lang), .int .i64 q.p.kind, .string (B q.p.text), .string (B q.p.type), .string (B q.p.lang), .int .i64 q.o.kind, .string (B q.o.text), .string (B q.o.type), .string (B q.o.lang), .int .i64 q.g.kind, .string (B q.g.text), .string (B q.g.type), .string (B q.g.lang)] 56)).alloc (by simp; omega) (.cells #[.pointer none] 77)))); have Q6 := Lib.hid (show w6.heap[w3.heap.size]? = some (.cells (quadC q).toArray 56 (0, 0)) from hw6 ▸ ((heap_alloc_old _ _ (by simp)).trans (heap_alloc_new w3 _))); clear hw6))
   go_cut [13, 14] from 101 to 109 (fun x13 x14 wx => x14 = .bool false /\ PAt w b gm n1 m p A vm vp wx /\ wx.heap[w3.heap.size]? = some (.cells (quadC q).toArray 56 (0, 0)))
   case first =>
     have c2 : w6.cell? ⟨b, 2, none⟩ = some (.map (some gm)) := by simp [World.cell?, P6.out.raw.row]
     have lb : b < w6.heap.size := (Array.getElem?_eq_some_iff.1 P6.out.raw.row).1
     have hx16 := cells16 (range_row Q6.out)
     have z0 := hx16.1
     have z1 := hx16.2.1
     have z2 := hx16.2.2.1
     have z3 := hx16.2.2.2.1
     have z4 := hx16.2.2.2.2.1
     have z5 := hx16.2.2.2.2.2.1
     have z6 := hx16.2.2.2.2.2.2.1
     have z7 := hx16.2.2.2.2.2.2.2.1
     have z8 := hx16.2.2.2.2.2.2.2.2.1
     have z9 := hx16.2.2.2.2.2.2.2.2.2.1
     have z10 := hx16.2.2.2.2.2.2.2.2.2.2.1
     have z11 := hx16.2.2.2.2.2.2.2.2.2.2.2.1
     have z12 := hx16.2.2.2.2.2.2.2.2.2.2.2.2.1
     have z13 := hx16.2.2.2.2.2.2.2.2.2.2.2.2.2.1
     have z14 := hx16.2.2.2.2.2.2.2.2.2.2.2.2.2.2.1
     have z15 := hx16.2.2.2.2.2.2.2.2.2.2.2.2.2.2.2
     clear hx16
     simp only [Nat.zero_add] at z1 z2 z3 z4 z5 z6 z7 z8 z9 z10 z11 z12 z13 z14 z15
     have lq : w3.heap.size < w6.heap.size := (Array.getElem?_eq_some_iff.1 Q6.out).1
     have hk6 : (Instr.lookup 69 (.map (some gm)) (.agg #[.int .i64 q.s.kind, .string (B q.s.text), .string (B q.s.type), .string (B q.s.lang), .int .i64 q.p.kind, .string (B q.p.text), .string (B q.p.type), .string (B q.p.lang), .int .i64 q.o.kind, .string (B q.o.text), .string (B q.o.type), .string (B q.o.lang), .int .i64 q.g.kind, .string (B q.g.text), .string (B q.g.type), .string (B q.g.lang)]) true).run Tryz.prog w6.drew = .ok (.tuple #[.agg #[], .bool false]) w6.drew := by
       have := look_q (W := w6.drew) P6.out.raw.mp HWF.out.1 HWF.out.2
       rw [HQA.out] at this
       exact this
     have B6' := ((Below.refl w6.heap.size w6).alloc (Nat.le_refl _) (.cells #[] 114)).drew
     have hk6a : (Instr.lookup 69 (.map (some gm)) (.agg #[.int .i64 q.s.kind, .string (B q.s.text), .string (B q.s.type), .string (B q.s.lang), .int .i64 q.p.kind, .string (B q.p.text), .string (B q.p.type), .string (B q.p.lang), .int .i64 q.o.kind, .string (B q.o.text), .string (B q.o.type), .string (B q.o.lang), .int .i64 q.g.kind, .string (B q.g.text), .string (B q.g.type), .string (B q.g.lang)]) true).run Tryz.prog (w6.alloc (.cells #[] 114)).drew = .ok (.tuple #[.agg #[], .bool false]) (w6.alloc (.cells #[] 114)).drew := by
       have := look_q (P6.out.raw.below B6').mp HWF.out.1 HWF.out.2
       rw [HQA.out] at this
       exact this
     have HB6 := Lib.hid B6'
     clear B6'
     go_region
     all_goals
       go_wp2_with fail
       go_meet
       case rel => exact ⟨rfl, P6.out.below HB6.out, (HB6.out.block _ (Array.getElem?_eq_some_iff.1 Q6.out).1).trans Q6.out⟩
   case rest =>
     obtain ⟨rfl, hp7, hq7⟩ := hcut
     have P7 := Lib.hid hp7
     have Q7 := Lib.hid hq7
     clear hp7 hq7
     go_upto_region 22 with fail
     refine pline_22P w b gm n1 fr j s m p A vm vp wc w3.heap.size q hlt HWF.out.2 HLN.out (Nat.le_trans HN3.out hs3) e7 j0 j1 hm hp P7.out.raw Q7.out HQ.out HPUT.out _ ?_ _ _ _ _ _ _ _ _ _ _ _ _ _ _ _ _ _ _ _ _ _ _ _ _ _ _ _ _ _ _ _ _ _ _ _ _ _ _ _ _ _ _ _ _ _ _ _ _ _ _ _ _ _ _ _ _ _ _ _ _ _ _ _ _ _ _ _ _ _ _ _ _ _ _ _ _ _ _ _ _ _ _ _ _ _ _ _ _ _ _ _ _ _ _ _ _ _ _ _ _ _ _ _ _ _ _ _ _ _ _ _ _ _ _ _ _ _ _ _ _ _ _ _ _ _ _ _ _ _ _ _ _ _ _ _ _ _ _ _ _ _ _ _ _ _
     assumption
theorem lineAt_hash0 {l : List UInt8} (h0 : 0 < l.length) (h : l.getD 0 0 = 35) (q : QuadL) : lineAt l ≠ .inl (some q) := by
 have hb : blkF l 0 = 0 := blkF_stop h0 (by rw [h]; decide)
 unfold lineAt
 rw [hb, if_neg (fun x => x.2 h)]
 cases restF' l 0 <;> simp
theorem patchLine_l (w : World) (b gm n1 fr : Nat) (s : List UInt8) (m p A : List QuadL) (vm vp : Value) (W : World) (P : PAt w b gm n1 m p A vm vp W) (hs : s.length <= 16777216) (hf : fr <= 67108864) (hT : TabAt w) (hM : MaxAt w) (hE : ErrType w) (hm : m.length < 1048576) (hp : p.length < 1048576) :
   Calls Tryz.prog 29 #[.pointer (some ⟨b, 0, none⟩), .string (B s), .int .i64 (fr : Int)] W fun e W' => PostL w b gm n1 e W' (pStep (.inl (m, p)) (fr, s)) := by
 by_cases hx : s.length <= blkF s 0
 · exact pline_end w b gm n1 fr s m p A vm vp W P hs hf hx
 have hx : blkF s 0 < s.length := by omega
 by_cases h35 : s[blkF s 0] = 35
 · obtain ⟨x, hl⟩ : ∃ x, lineAt (s.drop (blkF s 0)) = x := ⟨_, rfl⟩
   rcases x with (_ | q) | ⟨pe, ce⟩
   · exact pline_hash w b gm n1 fr s m p A vm vp W P hs hf hx h35 hl hT hM hE
   · exact absurd hl (lineAt_hash0 (by simp; omega) (by simp [List.getD, hx, h35]) q)
   · exact pline_hashbad w b gm n1 fr s m p A vm vp W P hs hf hx h35 pe ce hl hT hM hE
 by_cases h45 : s[blkF s 0] = 45
 · obtain ⟨x, hl⟩ : ∃ x, lineAt (s.drop (blkF s 0 + 1)) = x := ⟨_, rfl⟩
   rcases x with (_ | q) | ⟨pe, ce⟩
   · exact pline_minusnone w b gm n1 fr s m p A vm vp W P hs hf hx h45 hl hT hM hE
   · by_cases hq : q ∈ A
     · exact pline_minusold w b gm n1 fr s m p A vm vp W P hs hf hx h45 q hl hq hT hM hE
     · exact pline_minusnew w b gm n1 fr s m p A vm vp W P hs hf hx h45 q hl hq hm hp hT hM hE
   · exact pline_minusbad w b gm n1 fr s m p A vm vp W P hs hf hx h45 pe ce hl hT hM hE
 by_cases h43 : s[blkF s 0] = 43
 · obtain ⟨x, hl⟩ : ∃ x, lineAt (s.drop (blkF s 0 + 1)) = x := ⟨_, rfl⟩
   rcases x with (_ | q) | ⟨pe, ce⟩
   · exact pline_plusnone w b gm n1 fr s m p A vm vp W P hs hf hx h43 hl hT hM hE
   · by_cases hq : q ∈ A
     · exact pline_plusold w b gm n1 fr s m p A vm vp W P hs hf hx h43 q hl hq hT hM hE
     · exact pline_plusnew w b gm n1 fr s m p A vm vp W P hs hf hx h43 q hl hq hm hp hT hM hE
   · exact pline_plusbad w b gm n1 fr s m p A vm vp W P hs hf hx h43 pe ce hl hT hM hE
 exact pline_other w b gm n1 fr s m p A vm vp W P hs hf hx h35 h45 h43
end Go.Proofs.YtmnigckpejcaeaaGreatDoor
namespace Go.Proofs.YtmnigckpejcaeaaGreatDoor
open Go.RowKit Go.Shelf
set_option maxRecDepth 1000000
def PPost (w' : World) (e : Ending) : (List QuadL × List QuadL) ⊕ (Nat × Int) -> Prop
 | .inl (m, p) => ∃ v1 v2, e = .returned (.tuple #[.agg #[v1, v2], .nilIface]) /\ QView w' v1 m /\ QView w' v2 p
 | .inr f => ∃ ev, e = .returned (.tuple #[.agg #[.slice none 0 0, .slice none 0 0], ev]) /\ ErrIs w' ev (.inr f)
theorem PAt.slices {w : World} {b gm n1 : Nat} {m p A : List QuadL} {vm vp : Value} {W : World} (h : PAt w b gm n1 m p A vm vp W) : ∃ am cm ap cp, vm = .slice am m.length cm /\ vp = .slice ap p.length cp := by
 obtain ⟨am, cm, rfl, _, _⟩ := h.raw.om.at
 obtain ⟨ap, cp, rfl, _, _⟩ := h.raw.op.at
 exact ⟨am, cm, ap, cp, rfl, rfl⟩
theorem pParse_ok {l : List UInt8} {m p : List QuadL} (h : pRead (linesL l 0) = .inl (m, p)) : pParse l = .inl (setQ m, setQ p) := by unfold pParse; rw [h]
theorem pParse_bad {l : List UInt8} {pre : List (Nat × List UInt8)} {f : Nat × Int} (h : pRead pre = .inr f) (hp : pre <+: linesL l 0) : pParse l = .inr f := by unfold pParse; rw [pRead_prefix h hp]
theorem pat_new (w : World) : PAt (w.alloc (.cells #[.slice none 0 0, .slice none 0 0] 24)) (w.heap.size + 1 + 1) (w.heap.size + 1) (w.heap.size + 1 + 1 + 1) [] [] [] (.slice none 0 0) (.slice none 0 0) (((w.alloc (.cells #[.slice none 0 0, .slice none 0 0] 24)).alloc (.map #[] 0)).alloc (.cells #[.slice none 0 0, .slice none 0 0, .map (some (w.heap.size + 1))] 71)) := by
 have s1 : (w.alloc (.cells #[.slice none 0 0, .slice none 0 0] 24)).heap.size = w.heap.size + 1 := World.size_alloc _ _
 have s2 : ((w.alloc (.cells #[.slice none 0 0, .slice none 0 0] 24)).alloc (.map #[] 0)).heap.size = w.heap.size + 1 + 1 := by rw [World.size_alloc, s1]
 have h := World.ownsMap_made (w.alloc (.cells #[.slice none 0 0, .slice none 0 0] 24)) Tryz.prog 56 (Go.unitElem (H := Unit))
 have hr := heap_alloc_new ((w.alloc (.cells #[.slice none 0 0, .slice none 0 0] 24)).alloc (.map #[] 0)) (.cells #[.slice none 0 0, .slice none 0 0, .map (some (w.heap.size + 1))] 71)
 rw [s1] at h
 rw [s2] at hr
 refine ⟨⟨hr, QOwn.nil _ _, QOwn.nil _ _, h.alloc _, (fun k hk => by simp [Value.ownBlock] at hk), by simp, by omega, by omega, by omega, by rw [s1]; omega, by rw [s1]; exact Nat.le_refl _, ?_, fun _ => rfl, fun _ => rfl⟩, by simp, rfl, by simp⟩
 exact ((Below.refl _ _).alloc (Nat.le_refl _) _).alloc (by simp) _
theorem QFresh.later {b : Nat} {v : Value} {l : List QuadL} {w w' : World} (h : QFresh b v l w) (hb : Below w.heap.size w w') : QFresh b v l w' := h.keep (Nat.le_refl _) hb.size (fun k _ hk => hb.block k hk)
theorem QFresh.set2 {b g : Nat} {v : Value} {l : List QuadL} {w : World} {x y : Value} (h : QFresh b v l w) (hg : g < b) : QFresh b v l ((w.setCell ⟨g, 0, none⟩ x).setCell ⟨g, 1, none⟩ y) :=
 h.keep (Nat.le_refl _) (by simp) (fun k hk _ => by rw [RowKit.Below.heap_setCell _ _ _ _ (by show k ≠ g; omega), RowKit.Below.heap_setCell _ _ _ _ (by show k ≠ g; omega)])
theorem results_pp (tm : Array Value) (u : World) (g : Nat) (x y z : Value) (h2 : tm.getD 2 undef = .pointer (some ⟨g, 0, none⟩)) (h3 : tm.getD 3 undef = z) (c0 : u.cell? ⟨g, 0, none⟩ = some x) (c1 : u.cell? ⟨g, 1, none⟩ = some y) :
   (results Tryz.f9 tm).run Tryz.prog u = .ok (.tuple #[.agg #[x, y], z]) u := by
 have hr : (Tryz.f9).results = #[.cell 2 24, .tmp 3] := rfl
 rw [Array.getD_eq_getD_getElem?] at h2 h3
 simp [results, h2, h3, go_sem, c0, c1]
theorem two_sets {u : World} {g : Nat} {x y a b : Value} {T : TypeId} (h : u.heap[g]? = some (.cells #[a, b] T (0, 0))) : ((u.setCell ⟨g, 0, none⟩ x).setCell ⟨g, 1, none⟩ y).cell? ⟨g, 0, none⟩ = some x /\ ((u.setCell ⟨g, 0, none⟩ x).setCell ⟨g, 1, none⟩ y).cell? ⟨g, 1, none⟩ = some y := by
 have h1 : (u.setCell ⟨g, 0, none⟩ x).heap[g]? = some (.cells #[x, b] T (0, 0)) := heap_setCell_same _ _ 0 _ _ _ h
 have h2 : ((u.setCell ⟨g, 0, none⟩ x).setCell ⟨g, 1, none⟩ y).heap[g]? = some (.cells #[x, y] T (0, 0)) := heap_setCell_same _ _ 1 _ _ _ h1
 exact ⟨by simp [World.cell?, h2], by simp [World.cell?, h2]⟩
theorem pRead_nodup {pre : List (Nat × List UInt8)} {m p : List QuadL} (h : pRead pre = .inl (m, p)) : m.Nodup /\ p.Nodup := by
 have key : ∀ (r : List (Nat × List UInt8)) (m0 p0 m p : List QuadL), m0.Nodup -> p0.Nodup -> r.foldl pStep (.inl (m0, p0)) = .inl (m, p) -> m.Nodup /\ p.Nodup := by
   intro r
   induction r with
   | nil => intro m0 p0 m p h1 h2 h; cases h; exact ⟨h1, h2⟩
   | cons x r ih =>
     intro m0 p0 m p h1 h2 h
     rw [List.foldl_cons] at h
     obtain ⟨y, hy⟩ : ∃ y, pLine x.2 = y := ⟨_, rfl⟩
     have hs := pStep_of (m := m0) (p := p0) (x := x) hy
     rcases y with (_ | ⟨b, k, q⟩) | f
     · rw [hs.2.1 rfl] at h; exact ih _ _ _ _ h1 h2 h
     · by_cases hq : q ∈ m0 \/ q ∈ p0
       · rw [(hs.2.2 b k q rfl).1 hq, pStep_stuck] at h; cases h
       · rw [(hs.2.2 b k q rfl).2 hq] at h
         have n1 : q ∉ m0 := fun h => hq (.inl h)
         have n2 : q ∉ p0 := fun h => hq (.inr h)
         have app : ∀ {l : List QuadL}, l.Nodup -> q ∉ l -> (l ++ [q]).Nodup := fun hl hn => List.nodup_append.2 ⟨hl, by simp, fun a ha c hc e => hn (by rw [List.mem_singleton.1 hc] at e; rw [<- e]; exact ha)⟩
         cases b with
         | true => exact ih _ _ _ _ h1 (app h2 n2) h
         | false => exact ih _ _ _ _ (app h1 n1) h2 h
     · rw [hs.1 f rfl, pStep_stuck] at h; cases h
 exact key pre [] [] m p (by simp) (by simp) h
theorem two_c0 {u : World} {g : Nat} {x y : Value} {T : TypeId} (h : u.heap[g]? = some (.cells #[x, y] T (0, 0))) : u.cell? ⟨g, 0, none⟩ = some x := by simp [World.cell?, h]
theorem two_c1 {u : World} {g : Nat} {x y : Value} {T : TypeId} (h : u.heap[g]? = some (.cells #[x, y] T (0, 0))) : u.cell? ⟨g, 1, none⟩ = some y := by simp [World.cell?, h]
theorem two_f0 {u : World} {g : Nat} {x y : Value} {T : TypeId} (h : u.heap[g]? = some (.cells #[x, y] T (0, 0))) : u.frozen? ⟨g, 0, none⟩ = false := by simp [World.frozen?, h]
theorem two_f1 {u : World} {g : Nat} {x y : Value} {T : TypeId} (h : u.heap[g]? = some (.cells #[x, y] T (0, 0))) : u.frozen? ⟨g, 1, none⟩ = false := by simp [World.frozen?, h]
theorem keepB {u : World} {g b k : Nat} {x y z : Value} (hne : b ≠ g) (h : u.cell? ⟨b, 0, none⟩ = some x /\ u.cell? ⟨b, 1, none⟩ = some y) : (u.setCell ⟨g, k, none⟩ z).cell? ⟨b, 0, none⟩ = some x /\ (u.setCell ⟨g, k, none⟩ z).cell? ⟨b, 1, none⟩ = some y := by
 refine ⟨?_, ?_⟩
 · rw [World.cell?_setCell_other _ _ _ _ (by simp [])]; exact h.1
 · rw [World.cell?_setCell_other _ _ _ _ (by simp [])]; exact h.2
theorem err_two {u : World} {g : Nat} {y : Value} {n : Int} {T : TypeId} (h : u.cell? ⟨g, 0, none⟩ = some (.int .i64 n)) (h2 : u.heap[g]? = some (.cells #[.slice none 0 0, y] T (0, 0))) : False := by
 rw [two_c0 h2] at h; cases h
set_option maxHeartbeats 4000000 in
theorem patchParse_l (l : List UInt8) (a : Option Addr) (c : Nat) (w : World) (hA : At w a (l.map U8)) (hc : l.length <= c) (hl : l.length <= 67108864) (hL : ∀ x ∈ linesL l 0, x.2.length <= 16777216)
   (hq : ∀ pre m p, pre <+: linesL l 0 -> pRead pre = .inl (m, p) -> m.length < 1048576 /\ p.length < 1048576) (hT : TabAt w) (hM : MaxAt w) (hU : UtAt w) (hE : ErrType w) :
   Calls Tryz.prog 9 #[.slice a l.length c] w fun e w' => PPost w' e (pParse l) /\ Below w.heap.size w w' := by
 have e0 : decide ((67108864 : Int) < (l.length : Int)) = false := decide_eq_false (by omega)
 have hmm := @run_makeMap Tryz.prog
 have BW0 : Below w.heap.size w (w.alloc (.cells #[.slice none 0 0, .slice none 0 0] 24)) := (Below.refl _ _).alloc (Nat.le_refl _) _
 have HA := Lib.hid (fun (u : World) (h : Below (w.alloc (.cells #[.slice none 0 0, .slice none 0 0] 24)).heap.size (w.alloc (.cells #[.slice none 0 0, .slice none 0 0] 24)) u) => hA.below (BW0.trans (h.mono BW0.size)))
 have HTM := Lib.hid (And.intro (hT.below BW0) (And.intro (hM.below BW0) (And.intro (hU.below BW0) (hE.below BW0))))
 have HL := Lib.hid hL
 have HQ := Lib.hid hq
 have HB0 := Lib.hid BW0
 have P0 := Lib.hid (pat_new w)
 clear hA hT hM hU hE hL hq BW0
 go_enter Tryz.func9, Tryz.ntmps9
 go_wp2_with fail
 go_loopw [5] (fun f wr => ∃ (i : Nat) (pre : List (Nat × List UInt8)) (m p A : List QuadL) (am : Option Addr) (cm : Nat) (ap : Option Addr) (cp : Nat), f = .int .i64 i /\ i <= l.length + 1 /\ Hid (linesL l 0 = pre ++ linesL l i) /\ Hid (pRead pre = .inl (m, p)) /\ Hid (PAt (w.alloc (.cells #[.slice none 0 0, .slice none 0 0] 24)) (w.heap.size + 1 + 1) (w.heap.size + 1) (w.heap.size + 1 + 1 + 1) m p A (.slice am m.length cm) (.slice ap p.length cp) wr)) (fun f _ => l.length + 1 - (intOf f).toNat)
 case atStart => exact ⟨0, [], [], [], [], none, 0, none, 0, rfl, Nat.zero_le _, Lib.hid rfl, Lib.hid rfl, P0⟩
 case round =>
   obtain ⟨i, pre, m, p, A, am, cm, ap, cp, rfl, hi, HLL, HRD, HP⟩ := hrel
   clear P0
   by_cases hlt : i < l.length
   case neg =>
     have q8 : decide ((i : Int) < (l.length : Int)) = false := decide_eq_false (by omega)
     have q8n : decide (i < l.length) = false := decide_eq_false hlt
     have HPO : Hid (pParse l = .inl (setQ m, setQ p)) := Lib.hid (pParse_ok (by rw [HLL.out, linesL_end (by omega), List.append_nil]; exact HRD.out))
     have hcount := HQ.out pre m p (by rw [HLL.out]; exact List.prefix_append _ _) HRD.out
     have S1 := Lib.hid (fun (u : World) (h : Below wr.heap.size wr u) => termSort_l m (.slice am m.length cm) u (HP.out.raw.om.view.below h) HP.out.raw.nm (pRead_nodup HRD.out).1 (by omega))
     have S2 := Lib.hid (fun (u : World) (h : Below wr.heap.size wr u) => termSort_l p (.slice ap p.length cp) u (HP.out.raw.op.view.below h) HP.out.raw.np (pRead_nodup HRD.out).2 (by omega))
     have HRW := Lib.hid ((HP.out.raw.bw.block w.heap.size (by simp)).trans (heap_alloc_new w (.cells #[.slice none 0 0, .slice none 0 0] 24)))
     have HSZ := Lib.hid (show w.heap.size < wr.heap.size from (Array.getElem?_eq_some_iff.1 HRW.out).1)
     have SB : Hid (∀ u, Below wr.heap.size wr u -> u.cell? ⟨w.heap.size + 1 + 1, 0, none⟩ = some (.slice am m.length cm) /\ u.cell? ⟨w.heap.size + 1 + 1, 1, none⟩ = some (.slice ap p.length cp)) := Lib.hid (fun u h => by
       have hr := (h.block _ (Array.getElem?_eq_some_iff.1 HP.out.raw.row).1).trans HP.out.raw.row
       exact ⟨cell3_0 hr, cell3_1 hr⟩)
     have SR : Hid (∀ u, Below wr.heap.size wr u -> u.heap[w.heap.size]? = some (.cells #[.slice none 0 0, .slice none 0 0] 24) /\ u.cell? ⟨w.heap.size, 0, none⟩ = some (.slice none 0 0) /\ u.cell? ⟨w.heap.size, 1, none⟩ = some (.slice none 0 0) /\ u.frozen? ⟨w.heap.size, 0, none⟩ = false /\ u.frozen? ⟨w.heap.size, 1, none⟩ = false /\ w.heap.size < u.heap.size) := Lib.hid (fun u h => by
       have hr := (h.block _ HSZ.out).trans HRW.out
       exact ⟨hr, by simp [World.cell?, hr], by simp [World.cell?, hr], by simp [World.frozen?, hr], by simp [World.frozen?, hr], (Array.getElem?_eq_some_iff.1 hr).1⟩)
     have HBW := Lib.hid (HB0.out.trans (HP.out.raw.bw.mono HB0.out.size))
     have HB7 : Hid (Below wr.heap.size wr wr.drew) := Lib.hid (Below.refl _ _).drew
     clear HLL HRD hcount HQ HL HA HTM
     go_wp2_with fail
     go_region_held3 (fun u => u.cell? ⟨w.heap.size + 1 + 1, 0, none⟩ = some (.slice am m.length cm) /\ u.cell? ⟨w.heap.size + 1 + 1, 1, none⟩ = some (.slice ap p.length cp)) (first | exact SB.out _ HB7.out | exact keepB (by omega) (SB.out _ HB7.out) | exact keepB (by omega) (keepB (by omega) (SB.out _ HB7.out))) (first
       | (go_at_call 30; (with_reducible refine (S1.out _ HB7.out).mono ?_); rintro e w8 ⟨vv, rfl, ho, hb8⟩; obtain ⟨qa8, qn8, qc8, rfl⟩ := ho.form; have HB8 := Lib.hid (HB7.out.trans (hb8.mono HB7.out.size)); have HO8 := Lib.hid (ho.keep HB7.out.size (Nat.le_refl _) (fun _ _ _ => rfl)); (try (have HO9 := Lib.hid (HO9.out.later hb8))); clear HB7 hb8 ho; have HB7 := HB8; clear HB8; have sr := SR.out _ HB7.out; have c2 := sr.2.1; have c3 := sr.2.2.1; have f2 := sr.2.2.2.1; have f3 := sr.2.2.2.2.1; have l2 := sr.2.2.2.2.2; clear sr)
       | (go_at_call 30; (with_reducible refine (S2.out _ HB7.out).mono ?_); rintro e w9 ⟨vv, rfl, ho, hb9⟩; obtain ⟨qa9, qn9, qc9, rfl⟩ := ho.form; have HB8 := Lib.hid (HB7.out.trans (hb9.mono HB7.out.size)); have HO9 := Lib.hid (ho.keep HB7.out.size (Nat.le_refl _) (fun _ _ _ => rfl)); (try (have HO8 := Lib.hid (HO8.out.later hb9))); clear HB7 hb9 ho; have HB7 := HB8; clear HB8; have sr := SR.out _ HB7.out; have c2 := sr.2.1; have c3 := sr.2.2.1; have f2 := sr.2.2.2.1; have f3 := sr.2.2.2.2.1; have l2 := sr.2.2.2.2.2; clear sr))
     all_goals
       go_wp2_with fail
       obtain ⟨t0, t1⟩ := two_sets (x := .slice qa8 qn8 qc8) (y := .slice qa9 qn9 qc9) (SR.out _ HB7.out).1
       refine bodyPost_ret (results_pp _ _ _ _ _ _ rfl rfl t0 t1) rfl ?_
       rw [HPO.out]
       exact ⟨⟨_, _, rfl, (HO8.out.set2 HSZ.out).view, (HO9.out.set2 HSZ.out).view⟩, ((HBW.out.trans (HB7.out.mono (Nat.le_of_lt HSZ.out))).setCell (p := ⟨w.heap.size, 0, none⟩) (Nat.le_refl _) _).setCell (p := ⟨w.heap.size, 1, none⟩) (Nat.le_refl _) _⟩
   have q8 : decide ((i : Int) < (l.length : Int)) = true := decide_eq_true (by omega)
   have q8n : decide (i < l.length) = true := decide_eq_true hlt
   have i0 : 0 <= (i : Int) := by omega
   have i2 : (i : Int) <= (l.length : Int) := by omega
   have hic : ¬ c = i := by omega
   have hic2 : i < c := by omega
   have hic3 : ¬ (c : Int) = (i : Int) := by omega
   have hA := HA.out wr HP.out.raw.bw
   obtain ⟨b, o, rfl⟩ := hA.place (by simp; omega)
   have he := eolI_drop l i hlt
   have hbd := eolF_bound l l.length i (by omega) (by omega)
   have IX0 := eol_l (l.drop i) b (o + i) (c - i) wr (at_drop hA i) (by simp; omega) (by simp; omega) (by simp; omega) (HTM.out.2.2.1.below HP.out.raw.bw) (HTM.out.2.1.below HP.out.raw.bw)
   rw [List.length_drop] at IX0
   have IX := Lib.hid IX0
   obtain ⟨k, hk⟩ : ∃ k : Nat, eolF l i = i + k := ⟨eolF l i - i, by omega⟩
   have hkl : i + k <= l.length := by omega
   have HN : Hid (linesL l 0 = (pre ++ [(i, cutF l i (i + k))]) ++ linesL l (i + k + 1)) := Lib.hid (by rw [HLL.out, linesL_step hlt, hk]; simp)
   have hcount := HQ.out pre m p (by rw [HLL.out]; exact List.prefix_append _ _) HRD.out
   have hxl := HL.out (i, cutF l i (i + k)) (by rw [HN.out]; simp)
   have CV := Lib.hid (fun (u : World) (h : Below wr.heap.size wr u) => conv_cut l b o i (c - i) u (hA.below h) hlt k hkl)
   have LN := Lib.hid (fun (u : World) (h : Below wr.heap.size wr u) => patchLine_l (w.alloc (.cells #[.slice none 0 0, .slice none 0 0] 24)) (w.heap.size + 1 + 1) (w.heap.size + 1) (w.heap.size + 1 + 1 + 1) i (cutF l i (i + k)) m p A (.slice am m.length cm) (.slice ap p.length cp) u (HP.out.below h) hxl (by omega) HTM.out.1 HTM.out.2.1 HTM.out.2.2.2 hcount.1 hcount.2)
   have HST : Hid (pRead (pre ++ [(i, cutF l i (i + k))]) = pStep (.inl (m, p)) (i, cutF l i (i + k))) := Lib.hid (by rw [pRead_snoc, HRD.out])
   have m0 : 0 <= (i : Int) + (k : Int) := by omega
   have m1 : (i : Int) <= (i : Int) + (k : Int) := by omega
   have m2 : (i : Int) + (k : Int) <= (c : Int) := by omega
   have m3 : i <= i + k := by omega
   have m4 : i + k <= c := by omega
   rw [hk] at he
   obtain ⟨y, hy⟩ : ∃ y, pStep (.inl (m, p)) (i, cutF l i (i + k)) = y := ⟨_, rfl⟩
   rw [hy] at LN HST
   clear hA IX0 hbd HLL hcount hxl hy HRD hk
   rcases y with ⟨m', p'⟩ | ⟨fp, fe⟩
   · by_cases hend : i + k < l.length
     · rw [if_pos hend] at he
       have IX1 : Hid (Calls Tryz.prog 28 #[.slice (some ⟨b, o + i, none⟩) (l.length - i) (c - i), .string ⟨#[13, 10]⟩] wr fun e w' => e = .returned (.int .i64 (k : Int)) /\ Below wr.heap.size wr w') := Lib.hid (by have h := IX.out; rw [he, show (((i + k : Nat) : Int) - (i : Int)) = (k : Int) by omega] at h; exact h)
       have q14 : decide ((k : Int) < 0) = false := decide_eq_false (by omega)
       clear IX he hend
       go_wp2_with (first
         | (go_at_call 28; (with_reducible refine IX1.out.mono ?_); rintro e w2 ⟨rfl, hb2⟩; have HB2 := Lib.hid hb2; have cv := CV.out w2 hb2; clear hb2)
         | (go_at_call 29; (with_reducible refine (LN.out _ HB2.out).mono ?_); rintro e w3 ⟨rfl, hx3⟩; have HX3 := Lib.hid hx3; clear hx3))
       obtain ⟨A', vm', vp', hP'⟩ := HX3.out
       obtain ⟨am', cm', ap', cp', rfl, rfl⟩ := hP'.slices
       have HP3 := Lib.hid hP'
       clear hP' HX3
       go_roundw
       case rel => exact ⟨i + k + 1, _, m', p', A', am', cm', ap', cp', by go_num, by omega, HN, HST, HP3⟩
       case measure => simp [intOf]; omega
     · rw [if_neg hend] at he
       have IX1 : Hid (Calls Tryz.prog 28 #[.slice (some ⟨b, o + i, none⟩) (l.length - i) (c - i), .string ⟨#[13, 10]⟩] wr fun e w' => e = .returned (.int .i64 (-1)) /\ Below wr.heap.size wr w') := Lib.hid (by have h := IX.out; rw [he] at h; exact h)
       have hmm2 : (l.length : Int) - (i : Int) = (k : Int) := by omega
       clear IX he hend
       go_wp2_with (first
         | (go_at_call 28; (with_reducible refine IX1.out.mono ?_); rintro e w2 ⟨rfl, hb2⟩; have HB2 := Lib.hid hb2; have cv := CV.out w2 hb2; clear hb2)
         | (go_at_call 29; (with_reducible refine (LN.out _ HB2.out).mono ?_); rintro e w3 ⟨rfl, hx3⟩; have HX3 := Lib.hid hx3; clear hx3))
       obtain ⟨A', vm', vp', hP'⟩ := HX3.out
       obtain ⟨am', cm', ap', cp', rfl, rfl⟩ := hP'.slices
       have HP3 := Lib.hid hP'
       clear hP' HX3
       go_roundw
       case rel => exact ⟨i + k + 1, _, m', p', A', am', cm', ap', cp', by go_num, by omega, HN, HST, HP3⟩
       case measure => simp [intOf]; omega
   · have HPO : Hid (pParse l = .inr (fp, fe)) := Lib.hid (pParse_bad HST.out (by rw [HN.out]; exact List.prefix_append _ _))
     clear HST HN
     by_cases hend : i + k < l.length
     · rw [if_pos hend] at he
       have IX1 : Hid (Calls Tryz.prog 28 #[.slice (some ⟨b, o + i, none⟩) (l.length - i) (c - i), .string ⟨#[13, 10]⟩] wr fun e w' => e = .returned (.int .i64 (k : Int)) /\ Below wr.heap.size wr w') := Lib.hid (by have h := IX.out; rw [he, show (((i + k : Nat) : Int) - (i : Int)) = (k : Int) by omega] at h; exact h)
       have q14 : decide ((k : Int) < 0) = false := decide_eq_false (by omega)
       clear IX he hend
       go_wp2_with (first
         | (go_at_call 28; (with_reducible refine IX1.out.mono ?_); rintro e w2 ⟨rfl, hb2⟩; have HB2 := Lib.hid hb2; have cv := CV.out w2 hb2; clear hb2)
         | (go_at_call 29; (with_reducible refine (LN.out _ HB2.out).mono ?_); rintro e w3 ⟨hx3, hb3⟩; obtain ⟨ev, rfl, he3⟩ := hx3; obtain ⟨eb, rfl, he0, he1⟩ := he3; have HE3 := Lib.hid (And.intro he0 he1); have HB3 := Lib.hid hb3; have HRW := (hb3.block w.heap.size (by simp)).trans (heap_alloc_new w (.cells #[.slice none 0 0, .slice none 0 0] 24)); have c2 := two_c0 HRW; have c3 := two_c1 HRW; have f2 := two_f0 HRW; have f3 := two_f1 HRW; have l2 := (Array.getElem?_eq_some_iff.1 HRW).1; have HR3 := Lib.hid HRW; clear hb3 he0 he1 HRW))
       obtain ⟨t0, t1⟩ := two_sets (x := .slice none 0 0) (y := .slice none 0 0) HR3.out
       refine bodyPost_ret (results_pp _ _ _ _ _ _ rfl rfl t0 t1) rfl ?_
       rw [HPO.out]
       refine ⟨⟨_, rfl, eb, rfl, ?_, ?_⟩, ((HB0.out.trans (HB3.out.mono HB0.out.size)).setCell (p := ⟨w.heap.size, 0, none⟩) (Nat.le_refl _) _).setCell (p := ⟨w.heap.size, 1, none⟩) (Nat.le_refl _) _⟩
       · rw [World.cell?_setCell_other _ _ _ _ (by first | (simp; done) | (simp; intro e; subst e; exact err_two HE3.out.1 HR3.out)), World.cell?_setCell_other _ _ _ _ (by first | (simp; done) | (simp; intro e; subst e; exact err_two HE3.out.1 HR3.out))]
         exact HE3.out.1
       · rw [World.cell?_setCell_other _ _ _ _ (by first | (simp; done) | (simp; intro e; subst e; exact err_two HE3.out.1 HR3.out)), World.cell?_setCell_other _ _ _ _ (by first | (simp; done) | (simp; intro e; subst e; exact err_two HE3.out.1 HR3.out))]
         exact HE3.out.2
     · rw [if_neg hend] at he
       have IX1 : Hid (Calls Tryz.prog 28 #[.slice (some ⟨b, o + i, none⟩) (l.length - i) (c - i), .string ⟨#[13, 10]⟩] wr fun e w' => e = .returned (.int .i64 (-1)) /\ Below wr.heap.size wr w') := Lib.hid (by have h := IX.out; rw [he] at h; exact h)
       have hmm2 : (l.length : Int) - (i : Int) = (k : Int) := by omega
       clear IX he hend
       go_wp2_with (first
         | (go_at_call 28; (with_reducible refine IX1.out.mono ?_); rintro e w2 ⟨rfl, hb2⟩; have HB2 := Lib.hid hb2; have cv := CV.out w2 hb2; clear hb2)
         | (go_at_call 29; (with_reducible refine (LN.out _ HB2.out).mono ?_); rintro e w3 ⟨hx3, hb3⟩; obtain ⟨ev, rfl, he3⟩ := hx3; obtain ⟨eb, rfl, he0, he1⟩ := he3; have HE3 := Lib.hid (And.intro he0 he1); have HB3 := Lib.hid hb3; have HRW := (hb3.block w.heap.size (by simp)).trans (heap_alloc_new w (.cells #[.slice none 0 0, .slice none 0 0] 24)); have c2 := two_c0 HRW; have c3 := two_c1 HRW; have f2 := two_f0 HRW; have f3 := two_f1 HRW; have l2 := (Array.getElem?_eq_some_iff.1 HRW).1; have HR3 := Lib.hid HRW; clear hb3 he0 he1 HRW))
       obtain ⟨t0, t1⟩ := two_sets (x := .slice none 0 0) (y := .slice none 0 0) HR3.out
       refine bodyPost_ret (results_pp _ _ _ _ _ _ rfl rfl t0 t1) rfl ?_
       rw [HPO.out]
       refine ⟨⟨_, rfl, eb, rfl, ?_, ?_⟩, ((HB0.out.trans (HB3.out.mono HB0.out.size)).setCell (p := ⟨w.heap.size, 0, none⟩) (Nat.le_refl _) _).setCell (p := ⟨w.heap.size, 1, none⟩) (Nat.le_refl _) _⟩
       · rw [World.cell?_setCell_other _ _ _ _ (by first | (simp; done) | (simp; intro e; subst e; exact err_two HE3.out.1 HR3.out)), World.cell?_setCell_other _ _ _ _ (by first | (simp; done) | (simp; intro e; subst e; exact err_two HE3.out.1 HR3.out))]
         exact HE3.out.1
       · rw [World.cell?_setCell_other _ _ _ _ (by first | (simp; done) | (simp; intro e; subst e; exact err_two HE3.out.1 HR3.out)), World.cell?_setCell_other _ _ _ _ (by first | (simp; done) | (simp; intro e; subst e; exact err_two HE3.out.1 HR3.out))]
         exact HE3.out.2
end Go.Proofs.YtmnigckpejcaeaaGreatDoor
