/-
  Small words and laws of this claim's own: rows of cells, texts. By an AI agent. No program in sight.
-/
import Derived.Lib.Hide
import Derived.WalkSmall
namespace Go.Proofs.YtdhmpakhdhdebaaGreatDoor
open Go.RowKit
set_option maxRecDepth 100000
def B (l : List UInt8) : ByteArray := ⟨l.toArray⟩
theorem B_toList (l : List UInt8) : (B l).data.toList = l := by simp [B]
theorem B_size (l : List UInt8) : (B l).size = l.length := by simp [B, ByteArray.size]
theorem B_of (s : ByteArray) : B s.data.toList = s := by simp [B]
theorem B_inj {l m : List UInt8} (h : B l = B m) : l = m := by rw [<- B_toList l, <- B_toList m, h]
theorem B_toList' (l : List UInt8) : (B l).toList = l := by rw [ByteArray.toList_eq, B_toList]
theorem B_size' (l : List UInt8) : (B l).size = l.length := B_size l
theorem B_extract (l : List UInt8) (a b : Nat) : (B l).extract a b = B ((l.drop a).take (b - a)) := ByteArray.extract_mk l a b
theorem B_append (l m : List UInt8) : B l ++ B m = B (l ++ m) := ByteArray.mk_append_mk l m
theorem B_get (l : List UInt8) (k : Nat) (h : k < (B l).size) : (B l)[k] = l[k]'(by rw [<- B_size]; exact h) := by
 simp [B, ByteArray.getElem_eq_getElem_data]
attribute [go_sem] B_toList' B_size' B_extract B_append B_get
theorem B_all (s : ByteArray) : ∃ l, s = B l /\ s.data.toList = l /\ l.length = s.size := ⟨s.data.toList, (B_of s).symm, rfl, by simp⟩
def U8 (c : UInt8) : Value := .int .u8 (c.toNat : Int)
theorem add0 (g j : Nat) : (⟨g, 0, none⟩ : Addr).add j = ⟨g, j, none⟩ := by
 unfold Addr.add
 split
 ·next h => subst h; rfl
 ·simp
def RowAt (w : World) (g : Nat) (vs : List Value) : Prop := ∀ j (h : j < vs.length), w.cell? ⟨g, j, none⟩ = some vs[j] /\ w.frozen? ⟨g, j, none⟩ = false
theorem RowAt.cell {w : World} {g : Nat} {vs : List Value} (h : RowAt w g vs) {j : Nat} (hj : j < vs.length) : w.cell? ⟨g, j, none⟩ = some vs[j] := (h j hj).1
theorem RowAt.free {w : World} {g : Nat} {vs : List Value} (h : RowAt w g vs) {j : Nat} (hj : j < vs.length) : w.frozen? ⟨g, j, none⟩ = false := (h j hj).2
theorem RowAt.set {w : World} {g : Nat} {vs : List Value} (h : RowAt w g vs) {j : Nat} (hj : j < vs.length) (v : Value) : RowAt (w.setCell ⟨g, j, none⟩ v) g (vs.set j v) := by
 intro i hi
 have hi' : i < vs.length := by simpa using hi
 refine ⟨?_, by rw [World.frozen?_setCell]; exact h.free hi'⟩
 by_cases e : j = i
 ·subst e
  rw [World.cell?_setCell_same _ _ _ (h.cell hj), List.getElem_set_self]
 ·rw [World.cell?_setCell_other _ _ _ _ (fun he => e (by cases he; rfl)), h.cell hi', List.getElem_set_ne e]
theorem RowAt.drew {w : World} {g : Nat} {vs : List Value} (h : RowAt w g vs) : RowAt w.drew g vs := h
theorem RowAt.below {w w' : World} {g : Nat} {vs : List Value} (h : RowAt w g vs) {b : Nat} (hb : Below b w w') (hg : g < b) : RowAt w' g vs := fun j hj =>
 ⟨by rw [hb.cell (p := ⟨g, j, none⟩) hg]; exact h.cell hj, by rw [hb.frozen (p := ⟨g, j, none⟩) hg]; exact h.free hj⟩
theorem rowAt_bytes (w : World) (s : ByteArray) (cap : Nat) (e : TypeId) : RowAt (w.alloc (.cells (bytesRow s cap) e ((bytesRow s cap).size, (bytesRow s cap).size + 1))) w.heap.size (s.data.toList.map U8) := by
 intro j hj
 have hj' : j < s.data.size := by simpa using hj
 refine ⟨?_, ?_⟩
 ·rw [World.cell?_alloc_mark, bytesRow_at s cap j hj']
  simp [U8]
 ·rw [World.frozen?_alloc_mark]
  have : j < (bytesRow s cap).size := by simp only [bytesRow, Array.size_append, Array.size_map]; omega
  simp; omega
theorem cell_one (w : World) (a : Value) (t : TypeId) : ∀ j u, [a][j]? = some u -> (w.alloc (.cells #[a] t)).cell? ((⟨w.heap.size, 0, none⟩ : Addr).add j) = some u := by
 intro j u h
 cases j with
 | zero =>
  simp at h
  subst h
  simp [Addr.add]
 | succ j => simp at h
theorem byte_eq {c d : UInt8} (h : c = d) : ((c.toNat : Int) == (d.toNat : Int)) = true := by rw [h]; simp
theorem byte_ne {c d : UInt8} (h : c ≠ d) : ((c.toNat : Int) == (d.toNat : Int)) = false := by
 rw [beq_eq_false_iff_ne]
 intro e
 exact h (UInt8.toNat_inj.1 (by omega))
theorem back_of_row {P : Program} (w : World) (src dst e : TypeId) (g cap n : Nat) (l : List UInt8) (hn : l.length = n) (hs : P.underlying src = some (.slice e)) (he : P.underlying e = some (.int .u8)) (hd : P.underlying dst = some .string)
  (h : RowAt w g (l.map U8)) : (convert src dst (.slice (some ⟨g, 0, none⟩) n cap)).run P w = .ok (.string (B l)) w := by
 subst hn
 refine run_convert_bytes_back w src dst e _ cap l hs he hd fun j hj => ?_
 rw [add0, h.cell (by simpa using hj)]
 simp [U8]
theorem u8_map (l : List UInt8) (k : Nat) (h : k < l.length) : (l.map U8)[k]'(by simpa using h) = .int .u8 (l[k].toNat : Int) := by simp [U8]
theorem RowAt.set_u8 {w : World} {g : Nat} {l : List UInt8} (h : RowAt w g (l.map U8)) {j : Nat} (hj : j < l.length) (c : UInt8) : RowAt (w.setCell ⟨g, j, none⟩ (.int .u8 (c.toNat : Int))) g ((l.set j c).map U8) := by
 have := h.set (j := j) (by simpa using hj) (U8 c)
 rw [List.map_set]
 exact this
def At (w : World) (a : Option Addr) (xs : List Value) : Prop := ∀ j (h : j < xs.length), ∃ b o, a = some ⟨b, o, none⟩ /\ w.cell? ⟨b, o + j, none⟩ = some xs[j]
theorem At.nil (w : World) (a : Option Addr) : At w a [] := fun j h => by simp at h
theorem At.below {w w' : World} {a : Option Addr} {xs : List Value} (h : At w a xs) (hb : Below w.heap.size w w') : At w' a xs := fun j hj => by
 obtain ⟨b, o, ha, hc⟩ := h j hj
 exact ⟨b, o, ha, by rw [hb.cell (p := ⟨b, o + j, none⟩) (World.block_lt_of_cell? _ _ hc)]; exact hc⟩
theorem At.drewN {w : World} {a : Option Addr} {xs : List Value} (h : At w a xs) (n : Nat) : At (w.drewN n) a xs := h
theorem At.take {w : World} {a : Option Addr} {xs : List Value} (h : At w a xs) (n : Nat) : At w a (xs.take n) := fun j hj => by
 have hj' : j < xs.length := by simp at hj; omega
 obtain ⟨b, o, ha, hc⟩ := h j hj'
 exact ⟨b, o, ha, by rw [List.getElem_take]; exact hc⟩
theorem At.get {w : World} {b o : Nat} {xs : List Value} (h : At w (some ⟨b, o, none⟩) xs) {j : Nat} (hj : j < xs.length) : w.cell? ⟨b, o + j, none⟩ = some xs[j] := by
 obtain ⟨b', o', ha, hc⟩ := h j hj
 cases ha
 exact hc
theorem At.place {w : World} {a : Option Addr} {xs : List Value} (h : At w a xs) (hj : 0 < xs.length) : ∃ b o, a = some ⟨b, o, none⟩ := by
 obtain ⟨b, o, ha, _⟩ := h 0 hj
 exact ⟨b, o, ha⟩
theorem ownsRow_at {w : World} {base : Nat} {e : TypeId} {v : Value} {n : Nat} {xs : List Value} (h : w.ownsRow base e 1 v n xs) : ∃ a cap, v = .slice a n cap /\ n <= cap /\ xs.length = n /\ At w a xs := by
 have hx : xs.length = n := by have := h.1; omega
 rcases h.2 with ⟨rfl, rfl⟩ | ⟨g, cap, cur, rfl, _, hg, hn, _⟩
 ·exact ⟨none, 0, rfl, Nat.le_refl _, hx, fun j hj => by omega⟩
 ·refine ⟨_, cap, rfl, hn, hx, fun j hj => ⟨g, 0, rfl, ?_⟩⟩
  have := h.cells (g := g) rfl j xs[j] (List.getElem?_eq_getElem hj)
  rw [add0] at this
  rw [Nat.zero_add]
  exact this
theorem rowAt_of_heap {w : World} {g : Nat} {L : List Value} {t : TypeId} (h : w.heap[g]? = some (.cells L.toArray t (0, 0))) : RowAt w g L := by
 intro j hj
 refine ⟨?_, ?_⟩
 ·simp [World.cell?, h, hj]
 ·simp [World.frozen?, h]
theorem RowAt.at {w : World} {g : Nat} {L : List Value} (h : RowAt w g L) : At w (some ⟨g, 0, none⟩) L := fun j hj => ⟨g, 0, rfl, by rw [Nat.zero_add]; exact h.cell hj⟩
theorem addO (b o j : Nat) : (⟨b, o, none⟩ : Addr).add j = ⟨b, o + j, none⟩ := by
 unfold Addr.add
 split
 ·next h => subst h; rfl
 ·rfl
theorem bytes_back {P : Program} {w : World} {base : Nat} {e : TypeId} {v : Value} {n : Nat} {l : List UInt8} (src dst : TypeId) (hs : P.underlying src = some (.slice e)) (he : P.underlying e = some (.int .u8)) (hd : P.underlying dst = some .string)
  (h : w.ownsRow base e 1 v n (l.map U8)) : (convert src dst v).run P w = .ok (.string (B l)) w := by
 obtain ⟨a, cap, rfl, _, hx, ha⟩ := ownsRow_at h
 rw [List.length_map] at hx
 by_cases h0 : l.length = 0
 ·obtain rfl : l = [] := List.eq_nil_of_length_eq_zero h0
  rcases h.2 with ⟨h1, h2⟩ | ⟨g, cap', cur, hv, _⟩
  ·cases h1
   exact run_convert_bytes_nil w src e hs he 0 0 dst hd
  ·cases hv
   exact back_of_row w src dst e g cap n [] hx hs he hd (fun j hj => by simp at hj)
 ·obtain ⟨b, o, rfl⟩ := ha.place (by simp; omega)
  subst hx
  refine run_convert_bytes_back w src dst e _ cap l hs he hd fun j hj => ?_
  rw [addO, ha.get (j := j) (by simpa using hj)]
  simp [U8]
def slLen : Value -> Nat | .slice _ n _ => n | _ => 0
theorem conv_at {P : Program} (w : World) (src dst e : TypeId) (a : Option Addr) (cap n : Nat) (l : List UInt8) (hn : l.length = n) (h0 : 0 < n) (hs : P.underlying src = some (.slice e)) (he : P.underlying e = some (.int .u8)) (hd : P.underlying dst = some .string)
  (h : At w a (l.map U8)) : (convert src dst (.slice a n cap)).run P w = .ok (.string (B l)) w := by
 subst hn
 obtain ⟨b, o, rfl⟩ := h.place (by simpa using h0)
 refine run_convert_bytes_back w src dst e _ cap l hs he hd fun j hj => ?_
 rw [addO, h.get (j := j) (by simpa using hj)]
 simp [U8]
theorem ret_i64 {a b : Int} (h : a = b) : Ending.returned (.int .i64 a) = .returned (.int .i64 b) := by rw [h]
theorem ret_bool {a b : Bool} (h : a = b) : Ending.returned (.bool a) = .returned (.bool b) := by rw [h]
end Go.Proofs.YtdhmpakhdhdebaaGreatDoor
