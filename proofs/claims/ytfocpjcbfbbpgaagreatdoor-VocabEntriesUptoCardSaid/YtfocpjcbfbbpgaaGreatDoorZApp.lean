/-
  append of a slice that came in (it may be nil) to a row of the call's own: one law, for a walk, for a region that draws. By an AI agent.
-/
import Derived.Test.YtfocpjcbfbbpgaaGreatDoorZKit2
import Derived.Test.YtfocpjcbfbbpgaaGreatDoorZGPlain
import Derived.Deep.AppendLies
import Derived.Laws.OwnMore
namespace Go.Proofs.YtfocpjcbfbbpgaaGreatDoor
open Go.RowKit
section
variable {P : Program}
theorem run_append_texts (w : World) (t ty : TypeId) (base : Nat) (e : TypeId) (i : TypeInfo) (z : Value) (bytes : Nat) (ht : P.underlying t = some (.slice e)) (hi : P.info? e = some i) (hz : i.zero = some z)
   (hsize : i.size = 1) (hby : i.bytes = bytes) (hzs : z.cells.size = 1)
   (v : Value) (n : Nat) (xs : List Value) (hown : w.ownsRow base e 1 v n xs)
   (ao : Option Addr) (c : Nat) (news : List Value) (hnews : At w ao news) (hnone : ao = none -> c = 0) (h1 : ∀ u ∈ news, u.oneCell' = true)
   (h63 : n + news.length <= maxLen) (hbytes : (n + news.length) * bytes <= 140737488355328) (hbase : base <= w.heap.size) :
   ∃ v' w', (Builtin.append_ #[t, t] ty #[v, .slice ao news.length c]).run P w = .ok v' w' /\ w'.ownsRow base e 1 v' (n + news.length) (xs ++ news) /\ w.grownBy w' v.ownBlock /\ (v'.ownBlock = v.ownBlock \/ v'.ownBlock = some w.heap.size) := by
 cases ao with
 | none =>
   have hn : news = [] := by
     rcases news with _ | ⟨x, r⟩
     · rfl
     · obtain ⟨b, o, h, _⟩ := hnews 0 (by simp)
       cases h
   subst hn
   obtain rfl := hnone rfl
   refine ⟨v, w, run_append_owned_none (P := P) w base t ty e i 1 ht hi v n xs hown, by simpa using hown, World.grownBy.refl _ _, .inl rfl⟩
 | some ad =>
   obtain ⟨v', w', hr, h2, h3, _, h5⟩ := run_append_own_at (P := P) w base t ty e i z 1 bytes ht hi hz hsize hby hzs (by decide) v n xs hown ad news.length c news (by simp)
     (fun j u hu => by
       obtain ⟨hj, rfl⟩ := List.getElem?_eq_some_iff.1 hu
       obtain ⟨b, o, he, hc⟩ := hnews j hj
       cases he
       rw [addO]
       exact hc) h1 h63 hbytes hbase
   exact ⟨v', w', hr, h2, h3, h5⟩
theorem wp_append_texts {w : World} {o : Oper} {a : Act} {K : Act -> World -> Prop} {Q : Exit -> Act -> World -> Prop} (s x : Operand) (t : TypeId)
   (ho : o.op = .call { callee := .builtin .append, args := #[s, x], argTypes := #[t, t] })
   (base : Nat) (e : TypeId) (i : TypeInfo) (z : Value) (bytes : Nat) (ht : P.underlying t = some (.slice e)) (hi : P.info? e = some i) (hz : i.zero = some z)
   (hsize : i.size = 1) (hby : i.bytes = bytes) (hzs : z.cells.size = 1)
   (v : Value) (n : Nat) (xs : List Value) (hs : a.eval s = v) (hown : w.ownsRow base e 1 v n xs)
   (ao : Option Addr) (m c : Nat) (news : List Value) (hx : a.eval x = .slice ao m c) (hm : m = news.length) (hnews : At w ao news) (hnone : ao = none -> c = 0) (h1 : ∀ u ∈ news, u.oneCell' = true)
   (h63 : n + m <= maxLen) (hbytes : (n + m) * bytes <= 140737488355328) (hbase : base <= w.heap.size)
   (h : ∀ v' w', w'.ownsRow base e 1 v' (n + m) (xs ++ news) -> w.grownBy w' v.ownBlock -> (v'.ownBlock = v.ownBlock \/ v'.ownBlock = some w.heap.size) -> K (a.put o.dst v') w') : o.wp P a w K Q := by
 subst hm
 obtain ⟨v', w', hr, h2, h3, h4⟩ := run_append_texts (P := P) w t o.type base e i z bytes ht hi hz hsize hby hzs v n xs hown ao c news hnews hnone h1 h63 hbytes hbase
 unfold Oper.wp execOp
 simp only [ho, resolve, invoke, builtin, Sem.run_bind, Sem.run_pure, Result.andThen_ok, List.map_toArray, List.map_cons, List.map_nil, hs, hx, hr]
 exact h v' w' h2 h3 h4
theorem wpList_append_texts {w : World} {ops : Array Oper} {rest : List Oper} {o : Oper} {a : Act} {Q : Exit -> Act -> World -> Prop} (hgd : o.guard = none) (s x : Operand) (t : TypeId)
   (ho : o.op = .call { callee := .builtin .append, args := #[s, x], argTypes := #[t, t] })
   (base : Nat) (e : TypeId) (i : TypeInfo) (z : Value) (bytes : Nat) (ht : P.underlying t = some (.slice e)) (hi : P.info? e = some i) (hz : i.zero = some z)
   (hsize : i.size = 1) (hby : i.bytes = bytes) (hzs : z.cells.size = 1)
   (v : Value) (n : Nat) (xs : List Value) (hs : a.eval s = v) (hown : w.ownsRow base e 1 v n xs)
   (ao : Option Addr) (m c : Nat) (news : List Value) (hx : a.eval x = .slice ao m c) (hm : m = news.length) (hnews : At w ao news) (hnone : ao = none -> c = 0) (h1 : ∀ u ∈ news, u.oneCell' = true)
   (h63 : n + m <= maxLen) (hbytes : (n + m) * bytes <= 140737488355328) (hbase : base <= w.heap.size)
   (h : ∀ v' w', w'.ownsRow base e 1 v' (n + m) (xs ++ news) -> w.grownBy w' v.ownBlock -> (v'.ownBlock = v.ownBlock \/ v'.ownBlock = some w.heap.size) -> wpList P ops Q rest (a.put o.dst v') w') : wpList P ops Q (o :: rest) a w :=
 wpList_plain hgd fun _ hK => wp_append_texts s x t ho base e i z bytes ht hi hz hsize hby hzs v n xs hs hown ao m c news hx hm hnews hnone h1 h63 hbytes hbase fun v' w' h2 h3 h4 => hK _ _ (h v' w' h2 h3 h4)
theorem step_append_texts {w : World} {ops : Array Oper} {o : Oper} {a : Act} {K : Act -> World -> Prop} {Q : Exit -> Act -> World -> Prop} {E : Prop} (hgd : o.guard = none) (s x : Operand) (t : TypeId)
   (ho : o.op = .call { callee := .builtin .append, args := #[s, x], argTypes := #[t, t] })
   (base : Nat) (e : TypeId) (i : TypeInfo) (z : Value) (bytes : Nat) (ht : P.underlying t = some (.slice e)) (hi : P.info? e = some i) (hz : i.zero = some z)
   (hsize : i.size = 1) (hby : i.bytes = bytes) (hzs : z.cells.size = 1)
   (v : Value) (n : Nat) (xs : List Value) (hs : a.eval s = v) (hown : w.ownsRow base e 1 v n xs)
   (ao : Option Addr) (m c : Nat) (news : List Value) (hx : a.eval x = .slice ao m c) (hm : m = news.length) (hnews : At w ao news) (hnone : ao = none -> c = 0) (h1 : ∀ u ∈ news, u.oneCell' = true)
   (h63 : n + m <= maxLen) (hbytes : (n + m) * bytes <= 140737488355328) (hbase : base <= w.heap.size)
   (h : ∀ v' w', w'.ownsRow base e 1 v' (n + m) (xs ++ news) -> w.grownBy w' v.ownBlock -> (v'.ownBlock = v.ownBlock \/ v'.ownBlock = some w.heap.size) -> K (a.put o.dst v') w') :
   if Region.wanted o (yielded ops a.tmps) = true then Oper.wp P o a w K Q else E := by
 have hw : Region.wanted o (yielded ops a.tmps) = true := by simp [Region.wanted, hgd]
 rw [if_pos hw]
 exact wp_append_texts s x t ho base e i z bytes ht hi hz hsize hby hzs v n xs hs hown ao m c news hx hm hnews hnone h1 h63 hbytes hbase h
end
theorem at_one (w : World) (u : Value) (t : TypeId) : At (w.alloc (.cells #[u] t)) (some ⟨w.heap.size, 0, none⟩) [u] := fun j hj => by
 obtain rfl : j = 0 := by simpa using hj
 exact ⟨_, 0, rfl, by rw [World.cell?_alloc_new]; rfl⟩
theorem at_row (w : World) (l : List Value) (t : TypeId) : At (w.alloc (.cells l.toArray t)) (some ⟨w.heap.size, 0, none⟩) l := fun j hj => ⟨_, 0, rfl, by rw [Nat.zero_add, World.cell?_alloc_new]; simp [hj]⟩
theorem At.grown {w w' : World} {row : Option Nat} {a : Option Addr} {xs : List Value} (h : At w a xs) (hg : w.grownBy w' row) (hne : ∀ p, a = some p -> some p.block ≠ row) : At w' a xs := fun j hj => by
 obtain ⟨b, o, rfl, hc⟩ := h j hj
 refine ⟨b, o, rfl, ?_⟩
 rw [hg.cell_far ⟨b, o + j, none⟩ (World.block_lt_of_cell? _ _ hc) (hne ⟨b, o, none⟩ rfl)]
 exact hc
end Go.Proofs.YtfocpjcbfbbpgaaGreatDoor
