/-
  A slice of texts seen as a list, and its tail. By an AI agent.
-/
import Derived.Test.YtdhmpakhdhdebaaGreatDoorZChars
import Derived.Deep.AppendLies
import Derived.Test.YtdhmpakhdhdebaaGreatDoorZTerm1
import Derived.Deep.MidRow
namespace Go.Proofs.YtdhmpakhdhdebaaGreatDoor
open Go.RowKit
def View (w : World) (v : Value) (xs : List (List UInt8)) : Prop :=
 ∃ b o cap, v = .slice (some ⟨b, o, none⟩) xs.length cap /\ xs.length <= cap /\ ∀ (i : Nat) (h : i < xs.length), w.cell? ⟨b, o + i, none⟩ = some (strV xs[i])
def tailSV (b o len cap : Nat) : Value := sliced (some ⟨b, o, none⟩) 1 len cap 1
theorem View.tail {w : World} {b o cap n : Nat} {x : List UInt8} {xs : List (List UInt8)} (h : View w (.slice (some ⟨b, o, none⟩) n cap) (x :: xs)) : View w (tailSV b o n cap) xs := by
 obtain ⟨b', o', cap', he, hc, hx⟩ := h
 injection he with e1 e2 e3
 injection e1 with e1
 injection e1 with e4 e5
 subst e2 e3 e4 e5
 by_cases h1 : cap = 1
 ·subst h1
  have : xs = [] := List.length_eq_zero_iff.1 (by rw [List.length_cons] at hc; omega)
  subst this
  exact ⟨b, o, 0, by simp [tailSV, sliced], Nat.le_refl _, fun i hi => absurd hi (by simp)⟩
 ·refine ⟨b, o + 1, cap - 1, ?_, by simp at hc; omega, ?_⟩
  ·simp [tailSV, sliced, h1, Addr.add]
  ·intro i hi
   have := hx (i + 1) (by simp; omega)
   rw [show o + 1 + i = o + (i + 1) by omega]
   simpa using this
theorem View.head {w : World} {b o cap n : Nat} {x : List UInt8} {xs : List (List UInt8)} (h : View w (.slice (some ⟨b, o, none⟩) n cap) (x :: xs)) : n = xs.length + 1 /\ n <= cap /\ w.cell? ⟨b, o, none⟩ = some (.string (B x)) := by
 obtain ⟨b', o', cap', he, hc, hx⟩ := h
 injection he with e1 e2 e3
 injection e1 with e1
 injection e1 with e4 e5
 subst e2 e3 e4 e5
 exact ⟨rfl, hc, hx 0 (by simp)⟩
theorem View.nil {w : World} {b o cap n : Nat} (h : View w (.slice (some ⟨b, o, none⟩) n cap) []) : n = 0 := by
 obtain ⟨b', o', cap', he, hc, hx⟩ := h
 injection he
theorem View.form {w : World} {v : Value} {xs : List (List UInt8)} (h : View w v xs) : ∃ b o cap, v = .slice (some ⟨b, o, none⟩) xs.length cap := by
 obtain ⟨b, o, cap, he, _⟩ := h
 exact ⟨b, o, cap, he⟩
theorem View.below {w w' : World} {v : Value} {xs : List (List UInt8)} (h : View w v xs) (hb : Below w.heap.size w w') : View w' v xs := by
 obtain ⟨b, o, cap, he, hc, hx⟩ := h
 exact ⟨b, o, cap, he, hc, fun i hi => by
  have h1 := hx i hi
  rw [hb.cell (p := ⟨b, o + i, none⟩) (World.block_lt_of_cell? _ _ h1)]
  exact h1⟩
theorem View.of_row {w : World} {base : Nat} {e : TypeId} {v : Value} {xs : List (List UInt8)} (h : w.ownsRow base e 1 v xs.length (xs.map strV)) (hne : xs ≠ []) : View w v xs := by
 obtain ⟨a, cap, rfl, hc, _, ha⟩ := ownsRow_at h
 have hpos : 0 < (xs.map strV).length := by rw [List.length_map]; exact List.length_pos_iff.2 hne
 obtain ⟨b, o, rfl⟩ := ha.place hpos
 refine ⟨b, o, cap, rfl, hc, fun i hi => ?_⟩
 have := ha.get (j := i) (by simpa using hi)
 simpa using this
theorem View.of_alloc (w : World) (e : TypeId) (cs : List Value) (xs : List (List UInt8)) (h : cs = xs.map strV) (n : Nat) (hn : n = xs.length) : View (w.alloc (.cells cs.toArray e)) (.slice (some ⟨w.heap.size, 0, none⟩) n n) xs := by
 subst h hn
 refine ⟨w.heap.size, 0, xs.length, rfl, Nat.le_refl _, fun i hi => ?_⟩
 rw [Nat.zero_add, World.cell?_alloc_new]
 simp [hi]
theorem run_tail {P : Program} (t e : TypeId) (ht : P.underlying t = some (.slice e)) (hz : ∀ w, (Go.sizeOf e).run P w = .ok 1 w) (b o n cap : Nat) (hn : 1 <= n) (w : World) :
  (Instr.slice t (.slice (some ⟨b, o, none⟩) n cap) (some (.int .i64 1)) none none).run P w = .ok (tailSV b o n cap) w := by
 have he : P.elem t = e := by simp [Program.elem, ht]
 rw [run_slice_l w t _ n cap (by rw [he]; exact ht) .i64 1 (by decide) (by omega), he, hz]
 rfl
def lenV : Value -> Nat
 | .slice _ n _ => n
 | _ => 0
theorem View.len {w : World} {v : Value} {xs : List (List UInt8)} (h : View w v xs) : lenV v = xs.length := by
 obtain ⟨b, o, cap, rfl, _⟩ := h
 rfl
theorem View.empty {w : World} {v : Value} (h : View w v []) : ∃ b o cap, v = .slice (some ⟨b, o, none⟩) 0 cap := by
 obtain ⟨b, o, cap, he, _⟩ := h
 exact ⟨b, o, cap, he⟩
theorem View.cons {w : World} {v : Value} {x : List UInt8} {xs : List (List UInt8)} (h : View w v (x :: xs)) :
  ∃ b o cap, v = .slice (some ⟨b, o, none⟩) (xs.length + 1) cap /\ xs.length + 1 <= cap /\ w.cell? ⟨b, o, none⟩ = some (.string (B x)) /\ View w (tailSV b o (xs.length + 1) cap) xs := by
 obtain ⟨b, o, cap, rfl⟩ := h.form
 exact ⟨b, o, cap, rfl, h.head.2.1, h.head.2.2, h.tail⟩
end Go.Proofs.YtdhmpakhdhdebaaGreatDoor
namespace Go.Proofs.YtdhmpakhdhdebaaGreatDoor
open Go.RowKit
section
variable {P : Program}
theorem run_append_texts (w : World) (t ty : TypeId) (base : Nat) (e : TypeId) (i : TypeInfo) (z : Value) (bytes : Nat) (ht : P.underlying t = some (.slice e)) (hi : P.info? e = some i) (hz : i.zero = some z)
  (hsize : i.size = 1) (hby : i.bytes = bytes) (hzs : z.cells.size = 1)
  (v : Value) (n : Nat) (xs : List Value) (hown : w.ownsRow base e 1 v n xs)
  (ao : Option Addr) (c : Nat) (news : List Value) (hnews : At w ao news) (hnone : ao = none -> c = 0) (h1 : ∀ u ∈ news, u.oneCell' = true)
  (h63 : n + news.length <= maxLen) (hbytes : (n + news.length) * bytes <= 140737488355328) (hbase : base <= w.heap.size) :
  ∃ v' w', (Builtin.append_ #[t, t] ty #[v, .slice ao news.length c]).run P w = .ok v' w' /\ w'.ownsRow base e 1 v' (n + news.length) (xs ++ news) /\ w.grownBy w' v.ownBlock /\ (v'.ownBlock = v.ownBlock \/ v'.ownBlock = some w.heap.size) := by
 cases ao with
 | none =>
  have hn : news = [] := by
   rcases news with _ | ⟨x, r⟩
   ·rfl
   ·obtain ⟨b, o, h, _⟩ := hnews 0 (by simp)
    cases h
  subst hn
  obtain rfl := hnone rfl
  refine ⟨v, w, run_append_owned_none (P := P) w base t ty e i 1 ht hi v n xs hown, by simpa using hown, World.grownBy.refl _ _, .inl rfl⟩
 | some ad =>
  obtain ⟨v', w', hr, h2, h3, _, h5⟩ := run_append_own_at (P := P) w base t ty e i z 1 bytes ht hi hz hsize hby hzs (by decide) v n xs hown ad news.length c news (by simp)
   (fun j u hu => by
    obtain ⟨hj, rfl⟩ := List.getElem?_eq_some_iff.1 hu
    obtain ⟨b, o, he, hc⟩ := hnews j hj
    cases he
    rw [addO]
    exact hc) h1 h63 hbytes hbase
  exact ⟨v', w', hr, h2, h3, h5⟩
theorem wp_append_texts {w : World} {o : Oper} {a : Act} {K : Act -> World -> Prop} {Q : Exit -> Act -> World -> Prop} (s x : Operand) (t : TypeId)
  (ho : o.op = .call { callee := .builtin .append, args := #[s, x], argTypes := #[t, t] })
  (base : Nat) (e : TypeId) (i : TypeInfo) (z : Value) (bytes : Nat) (ht : P.underlying t = some (.slice e)) (hi : P.info? e = some i) (hz : i.zero = some z)
  (hsize : i.size = 1) (hby : i.bytes = bytes) (hzs : z.cells.size = 1)
  (v : Value) (n : Nat) (xs : List Value) (hs : a.eval s = v) (hown : w.ownsRow base e 1 v n xs)
  (ao : Option Addr) (m c : Nat) (news : List Value) (hx : a.eval x = .slice ao m c) (hm : m = news.length) (hnews : At w ao news) (hnone : ao = none -> c = 0) (h1 : ∀ u ∈ news, u.oneCell' = true)
  (h63 : n + m <= maxLen) (hbytes : (n + m) * bytes <= 140737488355328) (hbase : base <= w.heap.size)
  (h : ∀ v' w', w'.ownsRow base e 1 v' (n + m) (xs ++ news) -> w.grownBy w' v.ownBlock -> (v'.ownBlock = v.ownBlock \/ v'.ownBlock = some w.heap.size) -> K (a.put o.dst v') w') : o.wp P a w K Q := by
 subst hm
 obtain ⟨v', w', hr, h2, h3, h4⟩ := run_append_texts (P := P) w t o.type base e i z bytes ht hi hz hsize hby hzs v n xs hown ao c news hnews hnone h1 h63 hbytes hbase
 unfold Oper.wp execOp
 simp only [ho, resolve, invoke, builtin, Sem.run_bind, Sem.run_pure, Result.andThen_ok, List.map_toArray, List.map_cons, List.map_nil, hs, hx, hr]
 exact h v' w' h2 h3 h4
theorem wpList_append_texts {w : World} {ops : Array Oper} {rest : List Oper} {o : Oper} {a : Act} {Q : Exit -> Act -> World -> Prop} (hgd : o.guard = none) (s x : Operand) (t : TypeId)
  (ho : o.op = .call { callee := .builtin .append, args := #[s, x], argTypes := #[t, t] })
  (base : Nat) (e : TypeId) (i : TypeInfo) (z : Value) (bytes : Nat) (ht : P.underlying t = some (.slice e)) (hi : P.info? e = some i) (hz : i.zero = some z)
  (hsize : i.size = 1) (hby : i.bytes = bytes) (hzs : z.cells.size = 1)
  (v : Value) (n : Nat) (xs : List Value) (hs : a.eval s = v) (hown : w.ownsRow base e 1 v n xs)
  (ao : Option Addr) (m c : Nat) (news : List Value) (hx : a.eval x = .slice ao m c) (hm : m = news.length) (hnews : At w ao news) (hnone : ao = none -> c = 0) (h1 : ∀ u ∈ news, u.oneCell' = true)
  (h63 : n + m <= maxLen) (hbytes : (n + m) * bytes <= 140737488355328) (hbase : base <= w.heap.size)
  (h : ∀ v' w', w'.ownsRow base e 1 v' (n + m) (xs ++ news) -> w.grownBy w' v.ownBlock -> (v'.ownBlock = v.ownBlock \/ v'.ownBlock = some w.heap.size) -> wpList P ops Q rest (a.put o.dst v') w') : wpList P ops Q (o :: rest) a w :=
 wpList_plain hgd fun _ hK => wp_append_texts s x t ho base e i z bytes ht hi hz hsize hby hzs v n xs hs hown ao m c news hx hm hnews hnone h1 h63 hbytes hbase fun v' w' h2 h3 h4 => hK _ _ (h v' w' h2 h3 h4)
theorem step_append_texts {w : World} {ops : Array Oper} {o : Oper} {a : Act} {K : Act -> World -> Prop} {Q : Exit -> Act -> World -> Prop} {E : Prop} (hgd : o.guard = none) (s x : Operand) (t : TypeId)
  (ho : o.op = .call { callee := .builtin .append, args := #[s, x], argTypes := #[t, t] })
  (base : Nat) (e : TypeId) (i : TypeInfo) (z : Value) (bytes : Nat) (ht : P.underlying t = some (.slice e)) (hi : P.info? e = some i) (hz : i.zero = some z)
  (hsize : i.size = 1) (hby : i.bytes = bytes) (hzs : z.cells.size = 1)
  (v : Value) (n : Nat) (xs : List Value) (hs : a.eval s = v) (hown : w.ownsRow base e 1 v n xs)
  (ao : Option Addr) (m c : Nat) (news : List Value) (hx : a.eval x = .slice ao m c) (hm : m = news.length) (hnews : At w ao news) (hnone : ao = none -> c = 0) (h1 : ∀ u ∈ news, u.oneCell' = true)
  (h63 : n + m <= maxLen) (hbytes : (n + m) * bytes <= 140737488355328) (hbase : base <= w.heap.size)
  (h : ∀ v' w', w'.ownsRow base e 1 v' (n + m) (xs ++ news) -> w.grownBy w' v.ownBlock -> (v'.ownBlock = v.ownBlock \/ v'.ownBlock = some w.heap.size) -> K (a.put o.dst v') w') :
  if Region.wanted o (yielded ops a.tmps) = true then Oper.wp P o a w K Q else E := by
 have hw : Region.wanted o (yielded ops a.tmps) = true := by simp [Region.wanted, hgd]
 rw [if_pos hw]
 exact wp_append_texts s x t ho base e i z bytes ht hi hz hsize hby hzs v n xs hs hown ao m c news hx hm hnews hnone h1 h63 hbytes hbase h
end
theorem at_one (w : World) (u : Value) (t : TypeId) : At (w.alloc (.cells #[u] t)) (some ⟨w.heap.size, 0, none⟩) [u] := fun j hj => by
 obtain rfl : j = 0 := by simpa using hj
 exact ⟨_, 0, rfl, by rw [World.cell?_alloc_new]; rfl⟩
theorem At.grown {w w' : World} {row : Option Nat} {a : Option Addr} {xs : List Value} (h : At w a xs) (hg : w.grownBy w' row) (hne : ∀ p, a = some p -> some p.block ≠ row) : At w' a xs := fun j hj => by
 obtain ⟨b, o, rfl, hc⟩ := h j hj
 refine ⟨b, o, rfl, ?_⟩
 rw [hg.cell_far ⟨b, o + j, none⟩ (World.block_lt_of_cell? _ _ hc) (hne ⟨b, o, none⟩ rfl)]
 exact hc
end Go.Proofs.YtdhmpakhdhdebaaGreatDoor
namespace Go.Proofs.YtdhmpakhdhdebaaGreatDoor
open Go.RowKit
set_option maxRecDepth 100000
theorem cell_row (w : World) (l : List Value) (t : TypeId) : ∀ j u, l[j]? = some u -> (w.alloc (.cells l.toArray t)).cell? ((⟨w.heap.size, 0, none⟩ : Addr).add j) = some u := by
 intro j u h
 rw [add0, World.cell?_alloc_new]
 simpa using h
end Go.Proofs.YtdhmpakhdhdebaaGreatDoor
