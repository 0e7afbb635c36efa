/-
  tesseralaw07.Over: contract. By an AI agent.
-/
import Derived.Test.YtdegonmkikfghaaGreatDoorZAwakeW
import Derived.Test.YtdegonmkikfghaaGreatDoorZRefSort
namespace Go.Proofs.YtdegonmkikfghaaGreatDoor
open Lib (hid)
open Go.RowKit
set_option maxRecDepth 100000
set_option maxHeartbeats 2000000 in
theorem over_l (base : Nat) (v : Value) (n : Nat) (xs : List Value) (w : World) (hO : w.ownsRow base 36 16 v n xs) (hn : n <= 2097152) (hb : base <= w.heap.size) :
  Calls Tryz.prog 28 #[v] w fun e w' => e = .returned (.tuple #[]) /\ w.grownBy w' v.ownBlock := by
 obtain ⟨a, cap, rfl⟩ : ∃ a cap, v = .slice a n cap := by
  rcases hO.2 with ⟨rfl, rfl⟩ | ⟨g, cap, cur, rfl, _⟩
  ·exact ⟨none, 0, rfl⟩
  ·exact ⟨_, cap, rfl⟩
 have HO := hid hO
 have HB := hid hb
 clear hO hb
 go_enter Tryz.func28, Tryz.ntmps28
 go_wp2_with fail
 go_loopw [2] (fun i wr => ∃ k : Nat, i = .int .i64 k /\ k <= n /\ Hid (∃ ys, wr.ownsRow base 36 16 (.slice a n cap) n ys) /\ Hid (w.grownBy wr (Value.slice a n cap).ownBlock)) (fun i _ => n - (intOf i).toNat)
 case atStart => exact ⟨0, rfl, Nat.zero_le _, hid ⟨xs, HO.out⟩, hid (World.grownBy.refl _ _)⟩
 case round =>
  obtain ⟨k, rfl, hk, HY, HG⟩ := hrel
  by_cases hlt : k < n
  ·as_aux_lemma =>
   obtain ⟨ys, hy⟩ := HY.out
   obtain ⟨g, rfl⟩ : ∃ g, a = some ⟨g, 0, none⟩ := by
    rcases hy.2 with ⟨h, rfl⟩ | ⟨g, cap', cur, h, _⟩
    ·omega
    ·injection h with h1 _ _
     exact ⟨g, h1⟩
   have HY2 := hid hy
   clear HY hy HO
   have q0 : (0 : Int) <= (k : Int) := by omega
   have q1 : (k : Int) < (n : Int) := by omega
   go_wp2_with (refine wpList_store_own rfl (.tmp 14) (.tmp 13) rfl base g n cap k ys hlt HY2.out rfl ⟨noTerm, noTerm, ⟨-9, [], [], []⟩, noTerm⟩ rfl ?_; intro w6 zs ho hg; have HO6 := hid ho; have HG6 := hid (HG.out.trans hg); clear ho hg)
   go_roundw
   case rel => exact ⟨k + 1, by go_num, hlt, hid ⟨zs, HO6.out⟩, HG6⟩
   case measure => simp [intOf]; omega
  ·obtain rfl : k = n := by omega
   clear HO
   go_wp2_with fail
   go_loopw [0, 3] (fun v i wr => ∃ j : Nat, i = .int .i64 j /\ j <= 9 /\ Hid (∃ ys, wr.ownsRow base 36 16 v (k + j) ys) /\ Hid (w.grownBy wr (Value.slice a k cap).ownBlock) /\ Hid (v.ownBlock = (Value.slice a k cap).ownBlock \/ ∀ g, v.ownBlock = some g -> w.heap.size <= g)) (fun _ i _ => 9 - (intOf i).toNat)
   case atStart => exact ⟨0, rfl, Nat.zero_le _, HY, HG, hid (.inl rfl)⟩
   case round =>
    obtain ⟨j, rfl, hj, HZ, HH, HV⟩ := hrel
    clear HY HG
    by_cases hj9 : j < 9
    ·as_aux_lemma =>
     obtain ⟨ys, hy⟩ := HZ.out
     have HY2 := hid hy
     have q1 : (j : Int) < 9 := by omega
     have HBW : Hid (base <= wr.heap.size) := hid (Nat.le_trans HB.out HH.out.size)
     clear HZ hy HB
     go_wp2_with (first | (refine wpList_build1c rfl (.tmp 21) rfl ⟨noTerm, ⟨-8, [], [], []⟩, noTerm, noTerm⟩ rfl ?_) | (at_builtin; refine wpList_append_print rfl (.tmp 19) (.tmp 22) rfl base u0 (k + j) ys rfl wr HY2.out ⟨noTerm, ⟨-8, [], [], []⟩, noTerm, noTerm⟩ 36 rfl rfl (by omega) HBW.out ?_; intro v6 w6 zs ho hg hat; have HO6 := hid ho; have HG6 := hid (HH.out.andThen hg (fun i hi => HV.out.elim (fun e => .inr (e ▸ hi)) (fun e => .inl (e i hi)))); have HV6 : Hid (v6.ownBlock = (Value.slice a k cap).ownBlock \/ ∀ g, v6.ownBlock = some g -> w.heap.size <= g) := hid (hat.elim (fun e => HV.out.imp (fun e2 => e.trans e2) (fun e2 g hg => e2 g (e ▸ hg))) (fun e => .inr (fun g hg => by rw [e] at hg; cases hg; exact Nat.le_succ_of_le HH.out.size))); clear ho hg hat))
     go_roundw
     case rel => exact ⟨j + 1, by go_num, hj9, hid ⟨zs, HO6.out⟩, HG6, HV6⟩
     case measure => simp [intOf]; omega
    ·as_aux_lemma =>
     obtain rfl : j = 9 := by omega
     go_wp2_with fail
     go_end0
     exact ⟨rfl, HH.out⟩
end Go.Proofs.YtdegonmkikfghaaGreatDoor
namespace Go.Proofs.YtdegonmkikfghaaGreatDoor
open Lib (hid)
open Go.RowKit
set_option maxRecDepth 100000
theorem grown_setCells : ∀ (vs : List Value) (o : Nat) (w : World) (g : Nat), w.grownBy (w.setCells g o vs) (some g)
 | [], _, w, _ => World.grownBy.refl _ _
 | v :: vs, o, w, g => by
  have h1 : w.grownBy (w.setCell ⟨g, o, none⟩ v) (some g) := ⟨rfl, rfl, rfl, by simp [World.setCell], fun k _ hk => RowKit.Below.heap_setCell _ _ _ _ (fun e => hk (by rw [show k = g from e]))⟩
  exact h1.trans (grown_setCells vs (o + 1) (w.setCell ⟨g, o, none⟩ v) g)
theorem there_part {w : World} {g n o m : Nat} (h : w.there g 0 n) (hm : o + m <= n) : w.there g o m := fun j hj => by
 have := h (o + j) (by omega)
 rwa [Nat.zero_add] at this
theorem there_list {w : World} {g n : Nat} (h : w.there g 0 n) : ∃ cs : List Value, cs.length = n /\ ∀ j u, cs[j]? = some u -> w.cell? ⟨g, j, none⟩ = some u := by
 refine ⟨(List.range n).map fun j => (w.cell? ⟨g, j, none⟩).getD undef, by simp, fun j u hj => ?_⟩
 obtain ⟨h1, h2⟩ := List.getElem?_eq_some_iff.1 hj
 simp at h1
 have := (h j h1).1
 rw [Nat.zero_add] at this
 obtain ⟨x, hx⟩ := Option.isSome_iff_exists.1 this
 rw [<- h2]
 simp [hx]
theorem grown_then {w wr w' : World} {g : Nat} {r : Option Nat} (h : w.grownBy wr (some g)) (h2 : wr.grownBy w' r) (hr : ∀ k, r = some k -> w.heap.size <= k) : w.grownBy w' (some g) :=
 ⟨h2.os.trans h.os, h2.tape.trans h.tape, h2.output.trans h.output, Nat.le_trans h.size h2.size, fun k hk hne => (h2.block k (Nat.lt_of_lt_of_le hk h.size) (fun e => by have := hr k e.symm; omega)).trans (h.block k hk hne)⟩
abbrev wrongP : QuadL := ⟨noTerm, ⟨-8, [], [], []⟩, noTerm, noTerm⟩
theorem wpList_store_there {ops : Array Oper} {rest : List Oper} {op : Oper} {a : Act} {w : World} {Q : Exit -> Act -> World -> Prop} (hgd : op.guard = none) (p x : Operand) (ho : op.op = .store 36 p x)
  (g n k : Nat) (hk : k < n) (ht : w.there g 0 (n * 16)) (hp : a.eval p = .pointer (some ⟨g, k * 16, none⟩)) (q : QuadL) (hx : a.eval x = qv q)
  (h : ∀ w', w'.there g 0 (n * 16) -> w.grownBy w' (some g) -> wpList Tryz.prog ops Q rest (a.put op.dst undef) w') : wpList Tryz.prog ops Q (op :: rest) a w :=
 wpList_store_mid hgd _ p x ho g (k * 16) (quadC q).toArray hp hx (there_part ht (show k * 16 + 16 <= n * 16 by omega)) (by kernel_rfl) (oneQ q) (h _ (World.there_setCells ht _ _ _) (grown_setCells _ _ _ _))
theorem own_lower {w : World} {b b' : Nat} {e : TypeId} {s : Nat} {v : Value} {n : Nat} {xs : List Value} (h : w.ownsRow b' e s v n xs) (hb : b <= b') : w.ownsRow b e s v n xs := by
 refine ⟨h.1, ?_⟩
 rcases h.2 with h2 | ⟨g, cap, cur, h1, h2, h3, h4⟩
 ·exact .inl h2
 ·exact .inr ⟨g, cap, cur, h1, Nat.le_trans hb h2, h3, h4⟩
theorem there_kept {w w' : World} {g n : Nat} (h : w.there g 0 n) (hb : w'.heap[g]? = w.heap[g]?) : w'.there g 0 n := fun j hj => by
 have := h j hj
 rw [World.cell?_of_block (w := w) (a := ⟨g, 0 + j, none⟩) hb, World.frozen?_of_block (w := w) (a := ⟨g, 0 + j, none⟩) hb]
 exact this
set_option maxHeartbeats 2000000 in
theorem overF_l (n g : Nat) (w : World) (hT : w.there g 0 (n * 16)) (hg : g < w.heap.size) (hn : n <= 2097152) :
  Calls Tryz.prog 28 #[.slice (some ⟨g, 0, none⟩) n n] w fun e w' => e = .returned (.tuple #[]) /\ w.grownBy w' (some g) := by
 have HT := hid hT
 have HGS := hid hg
 obtain ⟨i0, hi, hz0, hz1, hz2⟩ := info_parts infoQ
 clear hT hg
 go_enter Tryz.func28, Tryz.ntmps28
 go_wp2_with fail
 go_loopw [2] (fun i wr => ∃ k : Nat, i = .int .i64 k /\ k <= n /\ Hid (wr.there g 0 (n * 16)) /\ Hid (w.grownBy wr (some g))) (fun i _ => n - (intOf i).toNat)
 case atStart => exact ⟨0, rfl, Nat.zero_le _, HT, hid (World.grownBy.refl _ _)⟩
 case round =>
  obtain ⟨k, rfl, hk, HY, HG⟩ := hrel
  clear HT
  by_cases hlt : k < n
  ·as_aux_lemma =>
   have q0 : (0 : Int) <= (k : Int) := by omega
   have q1 : (k : Int) < (n : Int) := by omega
   go_wp2_with (refine wpList_store_there rfl (.tmp 14) (.tmp 13) rfl g n k hlt HY.out rfl ⟨noTerm, noTerm, ⟨-9, [], [], []⟩, noTerm⟩ rfl ?_; intro w6 ht6 hg6; have HT6 := hid ht6; have HG6 := hid (HG.out.trans hg6); clear ht6 hg6)
   go_roundw
   case rel => exact ⟨k + 1, by go_num, hlt, HT6, HG6⟩
   case measure => simp [intOf]; omega
  ·obtain rfl : k = n := by omega
   go_wp2_with fail
   go_loopw [0, 3] (fun v i wr => ∃ j : Nat, i = .int .i64 j /\ j <= 9 /\ Hid ((j = 0 /\ v = .slice (some ⟨g, 0, none⟩) k k /\ wr.there g 0 (k * 16)) \/ (∃ ys, wr.ownsRow w.heap.size 36 16 v (k + j) ys)) /\ Hid (w.grownBy wr (some g))) (fun _ i _ => 9 - (intOf i).toNat)
   case atStart => exact ⟨0, rfl, Nat.zero_le _, hid (.inl ⟨rfl, rfl, HY.out⟩), HG⟩
   case round =>
    obtain ⟨j, rfl, hj, HZ, HH⟩ := hrel
    clear HY HG
    by_cases hj9 : j < 9
    ·rcases HZ.out with ⟨hj0, rfl, ht⟩ | ⟨ys, hy⟩
     ·as_aux_lemma =>
      have q1 : (j : Int) < 9 := by omega
      have hgw : g < wr.heap.size := Nat.lt_of_lt_of_le HGS.out HH.out.size
      have hsw := HH.out.size
      obtain ⟨cs, hcs, hcc⟩ := there_list (there_kept ht (heap_alloc_old wr (.cells (quadC wrongP).toArray 36) hgw))
      have HC := hid hcc
      have HJ0 := hid hj0
      have HL := hid hcs
      clear HZ ht hcc hj0 hcs
      go_wp2_with (first
       | (refine wpList_build1c rfl (.tmp 21) rfl wrongP rfl ?_)
       | (at_builtin; refine wpList_append_grows _ rfl (.tmp 19) (.tmp 22) 22 rfl 36 i0 _ 16 224 Tryz.underlying22 hi hz0 hz1 hz2 rfl (by decide) (some ⟨g, 0, none⟩) k k cs rfl (fun h => by cases h) HL.out (fun b hb jj u hu => by cases hb; rw [add0]; exact HC.out jj u hu) ⟨wr.heap.size, 0, none⟩ 1 1 (quadC wrongP) rfl rfl (cell_row wr (quadC wrongP) 36) (oneCell_quad _) (by omega) (by unfold maxLen; omega) (by omega) ?_; intro v6 w6 ho hg6; have HO6 := hid ho; have HG6 := hid hg6; clear ho hg6))
      go_roundw
      case rel => exact ⟨j + 1, by go_num, hj9, hid (.inr ⟨_, by rw [HJ0.out]; exact own_lower HO6.out (by simp; omega)⟩), hid (grown_then (grown_then HH.out (World.grownBy_alloc wr _ none) (fun k h => by cases h)) HG6.out (fun k h => by cases h))⟩
      case measure => simp [intOf]; omega
     ·as_aux_lemma =>
      have HY2 := hid hy
      have q1 : (j : Int) < 9 := by omega
      have HBW := hid HH.out.size
      clear HZ hy
      go_wp2_with (first
       | (refine wpList_build1c rfl (.tmp 21) rfl wrongP rfl ?_)
       | (at_builtin; refine wpList_append_print rfl (.tmp 19) (.tmp 22) rfl w.heap.size u0 (k + j) ys rfl wr HY2.out wrongP 36 rfl rfl (by omega) HBW.out ?_; intro v6 w6 zs ho hg hat; have HO6 := hid ho; have HG6 := hid (grown_then HH.out hg (fun k hk => own_base HY2.out k hk)); clear ho hg hat))
      go_roundw
      case rel => exact ⟨j + 1, by go_num, hj9, hid (.inr ⟨zs, by rw [<- Nat.add_assoc]; exact HO6.out⟩), HG6⟩
      case measure => simp [intOf]; omega
    ·obtain rfl : j = 9 := by omega
     go_wp2_with fail
     go_end0
     exact ⟨rfl, HH.out⟩
end Go.Proofs.YtdegonmkikfghaaGreatDoor
namespace Go.Proofs.YtdegonmkikfghaaGreatDoor
open Lib (hid)
open Go.RowKit
set_option maxRecDepth 100000
theorem quadC_arr0 (q : QuadL) : (quadC q).toArray = #[.int .i64 q.s.kind, .string (B q.s.text), .string (B q.s.type), .string (B q.s.lang), .int .i64 q.p.kind, .string (B q.p.text), .string (B q.p.type), .string (B q.p.lang), .int .i64 q.o.kind, .string (B q.o.text), .string (B q.o.type), .string (B q.o.lang), .int .i64 q.g.kind, .string (B q.g.text), .string (B q.g.type), .string (B q.g.lang)] := rfl
set_option maxHeartbeats 1000000 in
theorem neq_self (q : QuadL) (w : World) : (binOp .neq 36 (.agg (quadC q).toArray) (.agg (quadC q).toArray)).run Tryz.prog w = .ok (.bool false) w := by
 obtain ⟨⟨k1, a1, b1, c1⟩, ⟨k2, a2, b2, c2⟩, ⟨k3, a3, b3, c3⟩, ⟨k4, a4, b4, c4⟩⟩ := q
 simp only [quadC, termC, List.cons_append, List.nil_append]
 go_simp
set_option maxHeartbeats 2000000 in
theorem sameQuads_t (l : List QuadL) (v0 v1 : Value) (w : World) (h0 : QView w v0 l) (h1 : QView w v1 l) (hl : l.length <= 4194304) :
  Calls Tryz.prog 27 #[v0, v1] w fun e w' => e = .returned (.bool true) /\ Below w.heap.size w w' := by
 obtain ⟨pa, ca, rfl, _, q0⟩ := h0
 obtain ⟨pb, cb, rfl, _, q1⟩ := h1
 have HA := hid q0
 have HB := hid q1
 clear q0 q1
 go_enter Tryz.func27, Tryz.ntmps27
 go_wp2_with fail
 go_loopw [5] (fun i wr => ∃ k : Nat, i = .int .i64 k /\ k <= l.length /\ Below w.heap.size w wr) (fun i _ => l.length - (intOf i).toNat)
 case atStart => exact ⟨0, rfl, Nat.zero_le _, Below.refl _ _⟩
 case round =>
  obtain ⟨k, rfl, hk, hb⟩ := hrel
  by_cases hlt : k < l.length
  ·as_aux_lemma =>
   obtain ⟨b, o, rfl⟩ := HA.out.place (by omega)
   obtain ⟨b2, o2, rfl⟩ := HB.out.place (by omega)
   have r1 := (HA.out.below hb).get hlt
   have r2 := (HB.out.below hb).get hlt
   obtain ⟨x, hx⟩ : ∃ x, l[k] = x := ⟨_, rfl⟩
   rw [hx] at r1 r2
   have NE := fun u => neq_self x u
   rw [quadC_arr0] at NE
   obtain ⟨c0, c1, c2, c3, c4, c5, c6, c7, c8, c9, c10, c11, c12, c13, c14, c15⟩ := cells16 r1
   obtain ⟨d0, d1, d2, d3, d4, d5, d6, d7, d8, d9, d10, d11, d12, d13, d14, d15⟩ := cells16 r2
   have BB := hid hb
   clear hb r1 r2 hx
   have hk3 : (0 : Int) <= (k : Int) := by omega
   go_wp2_with fail
   go_quiet (fail)
   go_wp2_with fail
   go_roundw
   case rel => exact ⟨k + 1, by go_num, hlt, _root_.Go.below_drewN BB.out _⟩
   case measure => simp [intOf]; omega
  ·as_aux_lemma =>
   obtain rfl : k = l.length := by omega
   have BB := hid hb
   clear hb
   go_wp2_with fail
   go_ret
   exact ⟨rfl, BB.out⟩
end Go.Proofs.YtdegonmkikfghaaGreatDoor
namespace Go.Proofs.YtdegonmkikfghaaGreatDoor
open Lib (hid)
open Go.RowKit
set_option maxRecDepth 100000
theorem heap_set_other (w : World) (p : Addr) (g : Nat) (x : Value) (h : g ≠ p.block) : (w.setCell p x).heap[g]? = w.heap[g]? := RowKit.Below.heap_setCell _ _ _ _ h
theorem BOwn.set {base : Nat} {v : Value} {l : List UInt8} {w : World} (h : BOwn base v l w) (p : Addr) (x : Value) (hp : v.ownBlock ≠ some p.block) : BOwn base v l (w.setCell p x) := by
 refine ⟨h.1, ?_⟩
 rcases h.2 with hn | ⟨g, cap, cur, rfl, h1, h2, rest⟩
 ·exact .inl hn
 ·refine .inr ⟨g, cap, cur, rfl, h1, ?_, rest⟩
  rw [heap_set_other w p g x (fun e => hp (by rw [<- e]; simp [Value.ownBlock]))]
  exact h2
def Writes (w : World) (a : Option Addr) (n : Nat) : Prop := ∀ j, j < n -> ∃ g v, a = some ⟨g, 0, none⟩ /\ w.cell? ⟨g, j, none⟩ = some v /\ w.frozen? ⟨g, j, none⟩ = false
theorem Writes.below {w w' : World} {a : Option Addr} {n : Nat} (h : Writes w a n) (hb : Below w.heap.size w w') : Writes w' a n := fun j hj => by
 obtain ⟨g, v, ha, hc, hf⟩ := h j hj
 have hlt := World.block_lt_of_cell? _ _ hc
 exact ⟨g, v, ha, (hb.cell (p := ⟨g, j, none⟩) hlt).trans hc, (hb.frozen (p := ⟨g, j, none⟩) hlt).trans hf⟩
theorem Writes.set {w : World} {a : Option Addr} {n : Nat} (h : Writes w a n) (p : Addr) (x : Value) : Writes (w.setCell p x) a n := fun j hj => by
 obtain ⟨g, v, ha, hc, hf⟩ := h j hj
 by_cases e : p = ⟨g, j, none⟩
 ·subst e
  exact ⟨g, x, ha, World.cell?_setCell_same _ _ _ hc, by rw [World.frozen?_setCell]; exact hf⟩
 ·exact ⟨g, v, ha, by rw [World.cell?_setCell_other _ _ _ _ e]; exact hc, by rw [World.frozen?_setCell]; exact hf⟩
theorem BOwn.writes {base : Nat} {a : Option Addr} {n c : Nat} {l : List UInt8} {w : World} (h : BOwn base (.slice a n c) l w) (hn : n = l.length) : Writes w a n := by
 intro j hj
 rcases h.2 with ⟨he, _⟩ | ⟨g, cap, cur, he, h1, h2, h3, h4⟩
 ·cases he; omega
 ·cases he
  have hc := h.cells (g := g) rfl j (U8 l[j]) (by simp [hj])
  rw [add0] at hc
  refine ⟨g, _, rfl, hc, ?_⟩
  simp [World.frozen?, h2]
end Go.Proofs.YtdegonmkikfghaaGreatDoor
namespace Go.Proofs.YtdegonmkikfghaaGreatDoor
open Lib (hid)
open Go.RowKit
set_option maxRecDepth 1000000
theorem neq_flt (a b : Int) (w : World) : (binOp .neq 42 (.agg #[.int .i64 a, .int .i64 b]) (.agg #[.int .i64 a, .int .i64 b])).run Tryz.prog w = .ok (.bool false) w := by
 go_simp
def ansQ : List QuadL ⊕ (Nat × Int) -> List QuadL
 | .inl s => s
 | .inr _ => []
def ansP : List QuadL ⊕ (Nat × Int) -> Int
 | .inl _ => 0
 | .inr (p, _) => (p : Int)
def ansC : List QuadL ⊕ (Nat × Int) -> Int
 | .inl _ => 0
 | .inr (_, c) => c
def EvIs (w : World) (ev : Value) (x y : Int) : Prop := (ev = .nilIface /\ x = 0 /\ y = 0) \/ ∃ p : Nat, x = (p : Int) /\ ErrIs w ev (.inr (p, y))
theorem EvIs.below {w w' : World} {ev : Value} {x y : Int} (h : EvIs w ev x y) (hb : Below w.heap.size w w') : EvIs w' ev x y := by
 rcases h with h | ⟨p, h1, h2⟩
 ·exact .inl h
 ·exact .inr ⟨p, h1, h2.below hb⟩
theorem seen_ev (ev : Value) (x y : Int) (w : World) (h : EvIs w ev x y) : Calls Tryz.prog 20 #[ev] w fun e w' => e = .returned (.agg #[.int .i64 x, .int .i64 y]) /\ Below w.heap.size w w' := by
 rcases h with ⟨rfl, rfl, rfl⟩ | ⟨p, rfl, h⟩
 ·exact seen_nil w
 ·exact seen_err ev p y w h
def QF (lo hi : Nat) (v : Value) (l : List QuadL) (w : World) : Prop := (l = [] /\ v = .slice none 0 0) \/ ∃ g, lo <= g /\ g < hi /\ v = .slice (some ⟨g, 0, none⟩) l.length l.length /\ QHold w g l
theorem QFresh.qf {b : Nat} {v : Value} {l : List QuadL} {w : World} (h : QFresh b v l w) : QF b w.heap.size v l w := h
theorem qhold_same {w w' : World} {g : Nat} {l : List QuadL} (h : QHold w g l) (e : w'.heap[g]? = w.heap[g]?) : QHold w' g l := (qhold_iff w' g l).2 (fun j hj => by
 have := (qhold_iff w g l).1 h j hj
 rw [World.cell?_of_block (w := w) (a := ⟨g, j, none⟩) e, World.frozen?_of_block (w := w) (a := ⟨g, j, none⟩) e]
 exact this)
theorem QF.same {lo hi : Nat} {v : Value} {l : List QuadL} {w w' : World} (h : QF lo hi v l w) (e : ∀ k, lo <= k -> k < hi -> w'.heap[k]? = w.heap[k]?) : QF lo hi v l w' := by
 rcases h with h | ⟨g, h1, h2, rfl, h3⟩
 ·exact .inl h
 ·exact .inr ⟨g, h1, h2, rfl, qhold_same h3 (e g h1 h2)⟩
theorem QF.below {lo hi : Nat} {v : Value} {l : List QuadL} {w w' : World} (h : QF lo hi v l w) (hh : hi <= w.heap.size) (hb : Below w.heap.size w w') : QF lo hi v l w' := h.same (fun k _ h2 => hb.block k (by omega))
theorem QF.view {lo hi : Nat} {v : Value} {l : List QuadL} {w : World} (h : QF lo hi v l w) : QView w v l := by
 rcases h with ⟨rfl, rfl⟩ | ⟨g, _, _, rfl, h⟩
 ·exact ⟨none, 0, rfl, Nat.le_refl _, QAt.nil _ _⟩
 ·exact ⟨_, _, rfl, Nat.le_refl _, h.at⟩
theorem QF.form {lo hi : Nat} {v : Value} {l : List QuadL} {w : World} (h : QF lo hi v l w) : ∃ a c, v = .slice a l.length c := by
 rcases h with ⟨rfl, rfl⟩ | ⟨g, _, _, rfl, h⟩
 ·exact ⟨none, 0, rfl⟩
 ·exact ⟨_, _, rfl⟩
theorem QHold.there {w : World} {g : Nat} {l : List QuadL} (h : QHold w g l) : w.there g 0 (l.length * 16) := fun j hj => by
 have := (qhold_iff w g l).1 h j (by rw [quadsC_len]; exact hj)
 rw [Nat.zero_add]
 exact ⟨by rw [this.1]; rfl, this.2⟩
theorem over_fresh {lo hi : Nat} {v : Value} {l : List QuadL} (u : World) (h : QF lo hi v l u) (hh : hi <= u.heap.size) (hl : l.length <= 2097152) :
  Calls Tryz.prog 28 #[v] u fun e w' => e = .returned (.tuple #[]) /\ ∃ row, u.grownBy w' row /\ ∀ k, row = some k -> lo <= k /\ k < hi := by
 rcases h with ⟨rfl, rfl⟩ | ⟨g, h1, h2, rfl, h3⟩
 ·refine (over_l u.heap.size (.slice none 0 0) 0 [] u (World.ownsRow_nil _ _ _ _) (by omega) (Nat.le_refl _)).mono ?_
  rintro e w' ⟨rfl, hg⟩
  exact ⟨rfl, none, hg, fun k hk => by cases hk⟩
 ·refine (overF_l l.length g u h3.there (by omega) hl).mono ?_
  rintro e w' ⟨rfl, hg⟩
  exact ⟨rfl, some g, hg, fun k hk => by cases hk; exact ⟨h1, h2⟩⟩
theorem bown_front {b : Nat} {a : Option Addr} {c : Nat} {l : List UInt8} {u : World} (h : BOwn b (.slice a (l ++ [250, 251]).length c) (l ++ [250, 251]) u) : At u a (l.map U8) /\ l.length <= c := by
 have h1 := At.take h.at l.length
 have e : ((l ++ [250, 251]).map U8).take l.length = l.map U8 := by rw [List.map_append, List.take_left' (by simp)]
 rw [e] at h1
 have := h.cap.2
 exact ⟨h1, by simp at this; omega⟩
theorem bown_some {b : Nat} {a : Option Addr} {c : Nat} {l : List UInt8} {u : World} (h : BOwn b (.slice a (l ++ [250, 251]).length c) (l ++ [250, 251]) u) : ∃ g, a = some ⟨g, 0, none⟩ /\ b <= g /\ g < u.heap.size := by
 rcases h.2 with ⟨_, he⟩ | ⟨g, cap, cur, he, h1, h2, _⟩
 ·simp at he
 ·cases he
  exact ⟨g, rfl, h1, (Array.getElem?_eq_some_iff.1 h2).1⟩
structure PzIn (l : List UInt8) (L : List QuadL) (x y : Int) (w : World) : Prop where
 by_ : Calls Tryz.prog 21 #[.string (B l)] w fun e w' => ∃ a c, e = .returned (.slice a l.length c) /\ BOwn w.heap.size (.slice a (l ++ [250, 251]).length c) (l ++ [250, 251]) w' /\ Below w.heap.size w w'
 ps : ∀ (b : Nat) (a : Option Addr) (c : Nat) (u : World), Below w.heap.size w u -> BOwn b (.slice a (l ++ [250, 251]).length c) (l ++ [250, 251]) u -> Calls Tryz.prog 25 #[.slice a l.length c] u fun e w' => (∃ v ev, e = .returned (.tuple #[v, ev]) /\ QF u.heap.size w'.heap.size v L w' /\ EvIs w' ev x y) /\ Below u.heap.size u w'
 rp : ∀ u : World, Calls Tryz.prog 26 #[.string (B l)] u fun e w' => (∃ v, e = .returned (.tuple #[v, .agg #[.int .i64 x, .int .i64 y]]) /\ QOwn u.heap.size v L w') /\ Below u.heap.size u w'
 kp : ∀ (b : Nat) (a : Option Addr) (c : Nat) (u : World), BOwn b (.slice a (l ++ [250, 251]).length c) (l ++ [250, 251]) u -> Calls Tryz.prog 24 #[.slice a l.length c, .string (B l)] u fun e w' => e = .returned (.bool true) /\ w' = u
 sq : ∀ (v0 v1 : Value) (u : World), QView u v0 L -> QView u v1 L -> Calls Tryz.prog 27 #[v0, v1] u fun e w' => e = .returned (.bool true) /\ Below u.heap.size u w'
theorem pzin_l (l : List UInt8) (w : World) (hl : l.length <= 1048576) (hT : TabAt w) (hM : MaxAt w) (hU : UtAt w) (hE : ErrType w) : PzIn l (ansQ (parseF l)) (ansP (parseF l)) (ansC (parseF l)) w where
 by_ := lawBytes_l l w hl
 ps := fun b a c u hb h => by
  refine (nqParse_l l a c u (bown_front h).1 (bown_front h).2 (by omega) (lines_few l hl) (hT.below hb) (hM.below hb) (hU.below hb) (hE.below hb)).mono ?_
  rintro e w' ⟨hP, h2⟩
  refine ⟨?_, h2⟩
  obtain ⟨z, hz⟩ : ∃ z, parseF l = z := ⟨_, rfl⟩
  rw [hz] at hP ⊢
  rcases z with s | ⟨p, n⟩
  ·obtain ⟨v, rfl, hq⟩ := hP
   exact ⟨v, _, rfl, hq.qf, .inl ⟨rfl, rfl, rfl⟩⟩
  ·obtain ⟨ev, rfl, hv⟩ := hP
   exact ⟨_, ev, rfl, .inl ⟨rfl, rfl⟩, .inr ⟨p, rfl, hv⟩⟩
 rp := fun u => by
  refine (refParse_l l u hl).mono ?_
  rintro e w' ⟨hP, h2⟩
  refine ⟨?_, h2⟩
  obtain ⟨z, hz⟩ : ∃ z, parseF l = z := ⟨_, rfl⟩
  rw [hz] at hP ⊢
  rcases z with s | ⟨p, n⟩
  ·obtain ⟨v, rfl, hq⟩ := hP
   exact ⟨v, rfl, hq⟩
  ·exact ⟨_, hP, World.ownsRow_nil _ _ _ _⟩
 kp := fun b a c u h => lawKept_l l b a c u h hl
 sq := fun v0 v1 u h0 h1 => sameQuads_t _ v0 v1 u h0 h1 (by
  obtain ⟨z, hz⟩ : ∃ z, parseF l = z := ⟨_, rfl⟩
  rw [hz]
  rcases z with s | ⟨p, n⟩
  ·have := parse_few hz
   show s.length <= _
   omega
  ·exact Nat.zero_le _)
theorem ans_few (l : List UInt8) (hl : l.length <= 1048576) : (ansQ (parseF l)).length <= 1048576 := by
 obtain ⟨z, hz⟩ : ∃ z, parseF l = z := ⟨_, rfl⟩
 rw [hz]
 rcases z with s | ⟨p, n⟩
 ·have := parse_few hz
  show s.length <= _
  omega
 ·exact Nat.zero_le _
structure PzSt (w wr : World) (g n : Nat) (vm vw : Value) (lo hi lo2 : Nat) (L : List QuadL) : Prop where
 hb : Below w.heap.size w wr
 hw : Writes wr (some ⟨g, 0, none⟩) n
 hm : QF lo hi vm L wr
 ho : QOwn lo2 vw L wr
 h0 : w.heap.size <= g
 h1 : g < lo
 h2 : g < lo2
theorem PzSt.set {w wr : World} {g n : Nat} {vm vw : Value} {lo hi lo2 : Nat} {L : List QuadL} (h : PzSt w wr g n vm vw lo hi lo2 L) (j : Nat) (x : Value) : PzSt w (wr.setCell ⟨g, j, none⟩ x) g n vm vw lo hi lo2 L :=
 ⟨h.hb.setCell (p := ⟨g, j, none⟩) h.h0 _, h.hw.set _ _, h.hm.same (fun k hk _ => RowKit.Below.heap_setCell _ _ _ _ (by have := h.h1; show k ≠ g; omega)), own_set2 h.ho h.h2 _, h.h0, h.h1, h.h2⟩
theorem writes_same {w w' : World} {g n : Nat} (h : Writes w (some ⟨g, 0, none⟩) n) (e : w'.heap[g]? = w.heap[g]?) : Writes w' (some ⟨g, 0, none⟩) n := fun j hj => by
 obtain ⟨g', v, ha, hc, hf⟩ := h j hj
 cases ha
 exact ⟨g, v, rfl, by rw [World.cell?_of_block (w := w) (a := ⟨g, j, none⟩) e]; exact hc, by rw [World.frozen?_of_block (w := w) (a := ⟨g, j, none⟩) e]; exact hf⟩
theorem bown_writes {b : Nat} {g c : Nat} {l : List UInt8} {w : World} (h : BOwn b (.slice (some ⟨g, 0, none⟩) (l ++ [250, 251]).length c) (l ++ [250, 251]) w) : Writes w (some ⟨g, 0, none⟩) l.length := fun j hj => (h.writes rfl) j (by simp; omega)
theorem pz_start {w u u' : World} {g c : Nat} {l : List UInt8} {vm vw : Value} {lo1 lo hi lo2 : Nat} {L : List QuadL} {row : Option Nat} (hb : Below w.heap.size w u) (hB : BOwn w.heap.size (.slice (some ⟨g, 0, none⟩) (l ++ [250, 251]).length c) (l ++ [250, 251]) u) (hg : g < lo1) (hm : QF lo hi vm L u) (ho : QOwn lo2 vw L u) (h1 : lo1 <= lo) (h2 : lo <= lo2) (hu : hi <= u.heap.size) (hG : u.grownBy u' row) (hr : ∀ k, row = some k -> lo1 <= k /\ k < lo) :
  PzSt w u' g l.length vm vw lo hi lo2 L := by
 have h0 : w.heap.size <= g := own_base hB g rfl
 have hgu : g < u.heap.size := by
  obtain ⟨g', e, _, h⟩ := bown_some hB
  cases e
  exact h
 refine ⟨hb.grown hG hb.size (fun k e => by have := hr k e; omega), writes_same (bown_writes hB) (hG.block g hgu (fun e => by have := hr g e.symm; omega)), hm.same (fun k h3 h4 => hG.block k (by omega) (fun e => by have := hr k e.symm; omega)), ownsRow_grown ho hG (fun k hk e => by have := own_base ho k hk; have := hr k e.symm; omega), h0, by omega, by omega⟩
end Go.Proofs.YtdegonmkikfghaaGreatDoor
namespace Go.Proofs.YtdegonmkikfghaaGreatDoor
open Lib (hid)
open Go.RowKit
set_option maxRecDepth 1000000
structure PzMid (w4 : World) (x y : Int) (u : World) : Prop where
 b : Below w4.heap.size w4 u
 c0 : u.cell? ⟨w4.heap.size, 0, none⟩ = some (.int .i64 x)
 c1 : u.cell? ⟨w4.heap.size, 1, none⟩ = some (.int .i64 y)
theorem PzMid.start (w4 : World) (x y : Int) : PzMid w4 x y (w4.alloc (.cells #[.int .i64 x, .int .i64 y] 42)).drew :=
 ⟨((Below.refl _ _).alloc (Nat.le_refl _) _).drew,
  by show (w4.alloc (.cells #[.int .i64 x, .int .i64 y] 42)).cell? ⟨w4.heap.size, 0, none⟩ = _; rw [World.cell?_alloc_new]; rfl,
  by show (w4.alloc (.cells #[.int .i64 x, .int .i64 y] 42)).cell? ⟨w4.heap.size, 1, none⟩ = _; rw [World.cell?_alloc_new]; rfl⟩
theorem PzMid.below {w4 : World} {x y : Int} {u u' : World} (h : PzMid w4 x y u) (hb : Below u.heap.size u u') : PzMid w4 x y u' :=
 ⟨h.b.trans (hb.mono h.b.size), by rw [hb.cell (World.block_lt_of_cell? _ _ h.c0)]; exact h.c0, by rw [hb.cell (World.block_lt_of_cell? _ _ h.c1)]; exact h.c1⟩
set_option maxHeartbeats 8000000 in
theorem pz_walk (l : List UInt8) (L : List QuadL) (x y : Int) (w : World) (J : PzIn l L x y w) (hl : l.length <= 1048576) (hL : L.length <= 1048576) :
  Calls Tryz.prog 6 #[.string (B l)] w fun e w' => e = .returned (.bool true) /\ Below w.heap.size w w' := by
 have HJ := hid J
 have NF := neq_flt
 clear J
 go_enter Tryz.func6, Tryz.ntmps6
 go_wp2_with (first
  | (go_at_call 21; (with_reducible refine HJ.out.by_.mono ?_); rintro e w1 ⟨a, c, rfl, hB, hb1⟩; obtain ⟨g, rfl, hg0, hg1⟩ := bown_some hB; have HB1 := hid hb1; have HY1 := hid hB; have HG1 := hid hg1; clear hb1 hB hg0 hg1)
  | (go_at_call 25; (with_reducible refine (HJ.out.ps _ _ _ _ HB1.out HY1.out).mono ?_); rintro e w2 ⟨⟨v2, ev, rfl, hq2, he2⟩, hb2⟩; obtain ⟨a2, c2, rfl⟩ := hq2.form; have HQ2 := hid hq2; have HE2 := hid he2; have HY2 := hid (HY1.out.below hb2); have HB2 := hid (HB1.out.trans (hb2.mono HB1.out.size)); have HS2 := hid hb2.size; clear hb2 hq2 he2 HY1 HB1)
  | (go_at_call 25; (with_reducible refine (HJ.out.ps _ _ _ _ HB2.out HY2.out).mono ?_); rintro e w3 ⟨⟨v3, ev3, rfl, hq3, he3⟩, hb3⟩; obtain ⟨a3, c3, rfl⟩ := hq3.form; have HQ3 := hid (HQ2.out.below (Nat.le_refl _) hb3); have HM3 := hid hq3; have HE3 := hid (HE2.out.below hb3); have HY3 := hid (HY2.out.below hb3); have HB3 := hid (HB2.out.trans (hb3.mono HB2.out.size)); have HS3 := hid hb3.size; clear hb3 hq3 he3 HY2 HB2 HQ2 HE2)
  | (go_at_call 26; (with_reducible refine (HJ.out.rp _).mono ?_); rintro e w4 ⟨⟨v4, rfl, ho4⟩, hb4⟩; have HO4 := hid ho4; have HQ4 := hid (HQ3.out.below HS3.out hb4); have HM4 := hid (HM3.out.below (Nat.le_refl _) hb4); have HE4 := hid (HE3.out.below hb4); have HY4 := hid (HY3.out.below hb4); have HB4 := hid (HB3.out.trans (hb4.mono HB3.out.size)); have HS4 := hid hb4.size; clear hb4 ho4 HY3 HB3 HQ3 HE3 HM3))
 have HX := hid (PzMid.start w4 x y)
 have ha := HS2.out
 have hb := HS3.out
 have hc := HS4.out
 have hL2 : L.length <= 2097152 := by omega
 have h24 : w2.heap.size <= w4.heap.size := by omega
 go_region_held3 (fun w' => w'.cell? ⟨w4.heap.size, 0, none⟩ = some (.int .i64 x) /\ w'.cell? ⟨w4.heap.size, 1, none⟩ = some (.int .i64 y)) (exact ⟨HX.out.c0, HX.out.c1⟩)
  (first
   | (go_at_call 27; (with_reducible refine (HJ.out.sq _ _ _ (HQ4.out.below h24 HX.out.b).view (HO4.out.below HX.out.b).view).mono ?_); rintro e w5 ⟨rfl, hb5⟩; have HX5 := hid (HX.out.below hb5); clear hb5 HX; have HX := HX5; clear HX5)
   | (go_at_call 27; (with_reducible refine (HJ.out.sq _ _ _ (HM4.out.below hc HX.out.b).view (HO4.out.below HX.out.b).view).mono ?_); rintro e w6 ⟨rfl, hb6⟩; have HX6 := hid (HX.out.below hb6); clear hb6 HX; have HX := HX6; clear HX6)
   | (go_at_call 20; (with_reducible refine (seen_ev _ _ _ _ (HE4.out.below HX.out.b)).mono ?_); rintro e w7 ⟨rfl, hb7⟩; have HX7 := hid (HX.out.below hb7); clear hb7 HX; have HX := HX7; clear HX7)
   | (go_at_call 24; (with_reducible refine (HJ.out.kp _ _ _ _ (HY4.out.below HX.out.b)).mono ?_); rintro e w8 ⟨rfl, rfl⟩))
 go_wp2_with (first
  | (go_at_call 28; (with_reducible refine (over_fresh _ (HQ4.out.below h24 HX.out.b) (Nat.le_trans h24 HX.out.b.size) hL2).mono ?_); rintro e w9 ⟨rfl, row, hg, hr⟩; have PS := hid (pz_start (HB4.out.trans (HX.out.b.mono HB4.out.size)) (HY4.out.below HX.out.b) HG1.out (HM4.out.below hc HX.out.b) (HO4.out.below HX.out.b) ha hb (Nat.le_trans hc HX.out.b.size) hg hr); clear hg hr))
 clear HX HB4 HY4 HM4 HQ4 HE4 HO4 NF
 go_loopw [10] (fun i wr => ∃ k : Nat, i = .int .i64 k /\ k <= l.length /\ Hid (PzSt w wr g l.length (.slice a3 L.length c3) v4 w2.heap.size w3.heap.size w3.heap.size L)) (fun i _ => l.length - (intOf i).toNat)
 case atStart => exact ⟨0, rfl, Nat.zero_le _, PS⟩
 case round =>
  obtain ⟨k, rfl, hk, HP⟩ := hrel
  clear PS
  by_cases hlt : k < l.length
  ·obtain ⟨g', u, hgg, hcell, hf⟩ := HP.out.hw k hlt
   cases hgg
   have hgs := World.block_lt_of_cell? _ _ hcell
   have q53 : decide ((k : Int) < (l.length : Int)) = true := decide_eq_true (by omega)
   go_wp2_with fail
   go_roundw
   case rel => exact ⟨k + 1, by go_num, by omega, hid (HP.out.set _ _)⟩
   case measure => simp [intOf]; omega
  ·have q53 : decide ((k : Int) < (l.length : Int)) = false := decide_eq_false (by omega)
   go_wp2_with (first
    | (go_at_call 27; (with_reducible refine (HJ.out.sq _ _ _ HP.out.hm.view HP.out.ho.view).mono ?_); rintro e w10 ⟨rfl, hb10⟩; have HZ := hid (HP.out.hb.trans (hb10.mono HP.out.hb.size)); clear hb10))
   go_ret
   exact ⟨rfl, HZ.out⟩
theorem parses_walk (l : List UInt8) (w : World) (hT : TabAt w) (hM : MaxAt w) (hU : UtAt w) (hE : ErrType w) (hl : l.length <= 1048576) :
  Calls Tryz.prog 6 #[.string (B l)] w fun e w' => e = .returned (.bool true) /\ Below w.heap.size w w' :=
 pz_walk l _ _ _ w (pzin_l l w hl hT hM hU hE) hl (ans_few l hl)
end Go.Proofs.YtdegonmkikfghaaGreatDoor
