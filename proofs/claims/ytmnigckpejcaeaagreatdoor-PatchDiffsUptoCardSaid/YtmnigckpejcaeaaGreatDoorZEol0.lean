/-
  The first line's end in some bytes, and how the library comes to it: plain laws. No program in sight. By an AI agent.
-/
import Derived.Test.YtmnigckpejcaeaaGreatDoorZEscBack0
import Derived.Test.YtmnigckpejcaeaaGreatDoorZBar0
import Derived.Shelf.Unicode.DecodeSlow
import Derived.Lib.RuneCountTail
import Derived.Lib.IndexEntry
import Derived.Lib.IndexAny
import Derived.Laws.Runes
import Derived.Test.YtmnigckpejcaeaaGreatDoorZQuad0
import Derived.Test.YtmnigckpejcaeaaGreatDoorProg
import Derived.Lib.AsciiSet
import Derived.Laws.ResultCell
import Derived.Deep.MidRow
import Derived.LoopTactic
import Derived.Shelf.Spec.DecodeRune
import Derived.Test.YtmnigckpejcaeaaGreatDoorZEsc0
import Derived.Test.YtmnigckpejcaeaaGreatDoorZGTag1
import Derived.Test.YtmnigckpejcaeaaGreatDoorZNextW2
import Derived.Test.YtmnigckpejcaeaaGreatDoorZRdW1
import Derived.Lib.Bytealg
import Derived.RangeFuncNested
import Derived.RangeFuncBound
import Derived.RangeFuncCalls
import Derived.RangeFuncLeaves
import Derived.RangeFuncWrites
import Derived.Shelf.Abstract
import Derived.Shelf.RegionOpen
import Derived.OwnWalkIn
import Derived.TacticsInMore
import Derived.LoopNIn
import Derived.LoopIn
import Derived.Test.YtmnigckpejcaeaaGreatDoorZSort0
namespace Go.Proofs.YtmnigckpejcaeaaGreatDoor
open Go.RowKit
set_option maxRecDepth 100000
def eolI (l : List UInt8) : Int := if eolF l 0 < l.length then (eolF l 0 : Int) else -1
theorem eolC_hi {c : UInt8} (h : 128 <= c.toNat) : eolC c = false := by
 unfold eolC
 rw [beq_eq_false_iff_ne.2 (fun e => by rw [e] at h; exact absurd h (by decide)), beq_eq_false_iff_ne.2 (fun e => by rw [e] at h; exact absurd h (by decide))]
 rfl
theorem eolC_contains (c : UInt8) : ([13, 10] : List UInt8).contains c = eolC c := by
 unfold eolC
 rw [List.contains_cons, List.contains_cons, List.contains_nil, Bool.or_false, Bool.or_comm]
theorem eolF_step {l : List UInt8} {i : Nat} (h : i < l.length) (hc : eolC l[i] = false) : eolF l i = eolF l (i + 1) := eolF_go h (by rw [show l.getD i 0 = l[i] by simp [List.getD, h]]; exact hc)
theorem eolF_at {l : List UInt8} {i : Nat} (h : i < l.length) (hc : eolC l[i] = true) : eolF l i = i := eolF_hit h (by rw [show l.getD i 0 = l[i] by simp [List.getD, h]]; exact hc)
theorem eolF_skip (l : List UInt8) : ∀ (n i : Nat), i + n <= l.length -> (∀ k (hk : k < l.length), i <= k -> k < i + n -> 128 <= l[k].toNat) -> eolF l i = eolF l (i + n)
 | 0, i, _, _ => rfl
 | n + 1, i, h, hk => by
   rw [eolF_step (by omega) (eolC_hi (hk i (by omega) (by omega) (by omega))), eolF_skip l n (i + 1) (by omega) (fun k hk' h1 h2 => hk k hk' (by omega) (by omega)), Nat.add_assoc, Nat.add_comm 1 n]
theorem decGo (l : List UInt8) (i : Nat) (h : i < l.length) : Lib.decodeGo (B (l.drop i)) = Utf8.decode (B l) i := by
 have hs : (B l).size = l.length := B_size l
 have e : B (l.drop i) = (B l).extract i (B l).size := by
   rw [B_extract, hs, List.take_of_length_le (by simp)]
 rw [e]
 unfold Lib.decodeGo
 rw [if_neg (by rw [Lib.tail_size]; omega), Lib.tail_decode, Nat.add_zero]
def EncIs (r n : Nat) : Prop := 2 <= n /\ (Utf8.encode (r : Int)).size = n /\ (Utf8.encode (r : Int)) ≠ ⟨#[13, 10]⟩ /\ Lib.index [13, 10] (Utf8.encode (r : Int)).data.toList = -1
theorem enc_is (r n : Nat) (hv : Utf8.valid (r : Int) = true) (h : (128 <= r /\ r <= 2047 /\ n = 2) \/ (2048 <= r /\ r <= 65535 /\ n = 3) \/ (65536 <= r /\ r <= 1114111 /\ n = 4)) : EncIs r n := by
 have hs : (Utf8.encode (r : Int)).size = n := by
   unfold Utf8.encode
   have hc : ¬ (r : Int).toNat < 128 := by omega
   simp only [hv, if_true, hc, if_false]
   rcases h with ⟨h1, h2, rfl⟩ | ⟨h1, h2, rfl⟩ | ⟨h1, h2, rfl⟩
   · rw [if_pos (by omega)]; rfl
   · rw [if_neg (by omega), if_pos (by omega)]; rfl
   · rw [if_neg (by omega), if_neg (by omega)]; rfl
 obtain ⟨f1, f2, f3⟩ := encode_facts (r : Int) hv (by omega)
 obtain ⟨e, he⟩ : ∃ e, Utf8.encode (r : Int) = e := ⟨_, rfl⟩
 unfold EncIs
 rw [he] at hs f1 f2 f3 ⊢
 have hne : e ≠ ⟨#[13, 10]⟩ := fun h => by
   subst h
   have := f3 (by decide)
   exact absurd this (by decide)
 have hl : e.data.toList.length = n := by rw [<- Lib.size_eq]; exact hs
 refine ⟨by omega, hs, hne, Lib.index_none fun j _ => ?_⟩
 cases ho : Lib.occAt [13, 10] e.data.toList j with
 | false => rfl
 | true =>
   rcases Lib.occAt_room ho with h | h
   · simp at h
     have hj : j = 0 := by omega
     have hn2 : n = 2 := by omega
     subst hj
     rw [Lib.occAt_iff_take _ _ _ (by simp; omega)] at ho
     have he2 : e.data.toList = [13, 10] := by simpa [hl, hn2] using (beq_iff_eq.1 ho).symm
     exact absurd (by rw [<- B_of e, he2]; rfl) hne
   · rw [h] at hl; simp at hl; omega
theorem dec_all (l : List UInt8) (i : Nat) (h : i < l.length) (hi : ¬ l[i].toNat < 128) : ∃ r n : Nat, Lib.decodeGo (B (l.drop i)) = (r, n) /\ 128 <= r /\ r <= 1114111 /\ 1 <= n /\ n <= 4 /\ i + n <= l.length /\ eolF l i = eolF l (i + n) /\ (r ≠ 65533 -> EncIs r n) := by
 refine ⟨_, _, decGo l i h, ?_⟩
 rcases dec_step l i h with ⟨h1, _⟩ | ⟨h1, h2, h3, h4⟩
 · exact absurd h1 hi
 have hs : (B l).size = l.length := B_size l
 have hsk := eolF_skip l _ i h3 h4
 have hv : ∀ x : Nat, (x < 55296 \/ 57343 < x) -> x <= 1114111 -> Utf8.valid (x : Int) = true := fun x h1 h2 => by
   rw [validRune_eq]
   unfold validRune
   exact decide_eq_true (by omega)
 have key : (Utf8.decode (B l) i).1 <= 1114111 /\ (Utf8.decode (B l) i).2 <= 4 /\ ((Utf8.decode (B l) i).1 ≠ 65533 -> EncIs (Utf8.decode (B l) i).1 (Utf8.decode (B l) i).2) := by
   rw [Lib.decode_at, hs, get_B l i h]
   have k1 := ((B l).get! (i + 1)).toNat_lt
   have k2 := ((B l).get! (i + 2)).toNat_lt
   have k3 := ((B l).get! (i + 3)).toNat_lt
   rcases Lib.decodeN_shape (l.length - i) l[i].toNat ((B l).get! (i + 1)).toNat ((B l).get! (i + 2)).toNat ((B l).get! (i + 3)).toNat with ⟨c, e⟩ | ⟨c1, c2, c3, cv, e⟩ | ⟨c1, c2, c3, c4, cv, cs, e⟩ | ⟨c1, c2, c3, c4, c5, cv, cw, e⟩ | e
   · exact absurd c hi
   · rw [e]
     exact ⟨by simp only; omega, by simp, fun _ => enc_is _ _ (hv _ (by omega) (by omega)) (.inl ⟨cv, by omega, rfl⟩)⟩
   · rw [e]
     exact ⟨by simp only; omega, by simp, fun _ => enc_is _ _ (hv _ (by omega) (by omega)) (.inr (.inl ⟨cv, by omega, rfl⟩))⟩
   · rw [e]
     exact ⟨by simp only; omega, by simp, fun _ => enc_is _ _ (hv _ (by omega) (by omega)) (.inr (.inr ⟨cv, cw, rfl⟩))⟩
   · rw [e]
     exact ⟨by simp, by simp, fun h => absurd rfl h⟩
 exact ⟨h1, key.1, h2, key.2.1, h3, hsk, key.2.2⟩
end Go.Proofs.YtmnigckpejcaeaaGreatDoor
namespace Go.Proofs.YtmnigckpejcaeaaGreatDoor
open Go.RowKit
set_option maxRecDepth 1000000
set_option maxHeartbeats 400000 in
theorem useSet_l (n : Int) (w : World) : Calls Tryz.prog 52 #[.int .i64 n] w fun e w' => e = .returned (.bool (decide (8 < n))) /\ w' = w := by
 go_enter Tryz.func52, Tryz.ntmps52
 go_wp2_with fail
 go_ret
 exact ⟨rfl, rfl⟩
set_option maxHeartbeats 800000 in
theorem inSet_l (b : Nat) (x : UInt8) (v : Bool) (w : World) (hc : w.cell? ⟨b, x.toNat, none⟩ = some (.bool v)) :
   Calls Tryz.prog 54 #[.pointer (some ⟨b, 0, none⟩), .int .u8 (x.toNat : Int)] w fun e w' => e = .returned (.bool v) /\ w' = w := by
 have hx256 : (x.toNat : Int) < 256 := by have := UInt8.toNat_lt x; omega
 go_enter Tryz.func54, Tryz.ntmps54
 go_wp2_with fail
 go_ret
 exact ⟨rfl, rfl⟩
def eolRow (k : Nat) : Array Value := Lib.setCells ([13, 10].take k)
theorem eolRow_size (k : Nat) : (eolRow k).size = 256 := Lib.setCells_size _
theorem eolRow_1 : (eolRow 0).setIfInBounds 13 (.bool true) = eolRow 1 := by unfold eolRow; exact (Lib.setCells_snoc [] 13).symm
theorem eolRow_2 : (eolRow 1).setIfInBounds 10 (.bool true) = eolRow 2 := by unfold eolRow; exact (Lib.setCells_snoc [13] 10).symm
set_option maxHeartbeats 4000000 in
theorem makeSet_l (w : World) : Calls Tryz.prog 53 #[.string ⟨#[13, 10]⟩] w fun e w' => e = .returned (.tuple #[.agg (eolRow 2), .bool true]) /\ w' = w.alloc (.cells (eolRow 2) 102) := by
 have hv : ∀ w, (zeroValue 102).run Tryz.prog w = .ok (.agg (eolRow 0)) w := fun w => by unfold eolRow; kernel_rfl
 have hz0 : (eolRow 0)[13]? = some (.bool false) := Lib.setCells_at [] 13
 have hz1 : (eolRow 1)[10]? = some (.bool false) := Lib.setCells_at [13] 10
 have r0 := eolRow_1
 have r1 := eolRow_2
 have b0 : (⟨#[13, 10]⟩ : ByteArray)[0] = 13 := rfl
 have b1 : (⟨#[13, 10]⟩ : ByteArray)[1] = 10 := rfl
 have HR : (w.alloc (.cells (eolRow 2) 102)).rangeAt w.heap.size 0 (eolRow 2).toList := fun j v hj => by
   rw [Nat.zero_add, World.cell?_alloc_new]
   simpa using hj
 have HI : (Tryz.prog.info? 102).map (·.size) = some (eolRow 2).toList.length := by rw [Array.length_toList, eolRow_size]; kernel_rfl
 have HI2 : (Tryz.prog.info? 102).map (·.size) = some (eolRow 2).size := by rw [eolRow_size]; kernel_rfl
 have HG : (w.alloc (.cells (eolRow 2) 102)).heap[w.heap.size]? = some (.cells (eolRow 2) 102 (0, 0)) := heap_alloc_last w _
 have HO : (eolRow 2).all (·.oneCell') = true := Lib.setCells_one _
 go_enter Tryz.func53, Tryz.ntmps53
 go_wp2_with fail
 go_loopw [4] (fun s wr => ∃ (k : Nat) (z : Int), z = k /\ s = .int .i64 z /\ k <= 2 /\ wr = w.alloc (.cells (eolRow k) 102)) (fun s _ => 2 - (intOf s).toNat)
 case atStart => exact ⟨0, 0, rfl, rfl, by omega, rfl⟩
 case round =>
   obtain ⟨k, z, hz, rfl, hk, rfl⟩ := hrel
   have ck : k = 0 \/ k = 1 \/ k = 2 := by omega
   rcases ck with rfl | rfl | rfl
   · obtain rfl : z = 0 := by simpa using hz
     clear hz
     go_wp2_with fail
     go_roundw
     case rel => exact ⟨1, 1, rfl, by go_num, by omega, rfl⟩
     case measure => simp [intOf]
   · obtain rfl : z = 1 := by simpa using hz
     clear hz
     go_wp2_with fail
     go_roundw
     case rel => exact ⟨2, 2, rfl, by go_num, by omega, rfl⟩
     case measure => simp [intOf]
   · obtain rfl : z = 2 := by simpa using hz
     clear hz
     go_wp2_with (first
       | (refine wpList_load_mid rfl 102 (.tmp 2) rfl w.heap.size 0 rfl (eolRow 2).toList _ HR Tryz.underlying102 rfl HI ?_)
       | (refine wpList_store_row rfl 102 (.tmp 2) (.tmp 20) rfl w.heap.size rfl 102 (eolRow 2) (eolRow 2) rfl HG HI2 rfl HO ?_; rw [World.setRow_alloc_new]))
     refine bodyPost_ret (v := .tuple #[.agg (eolRow 2), .bool true]) ?_ rfl ⟨rfl, rfl⟩
     have hld := run_loadVar_new (P := Tryz.prog) w 102 (eolRow 2) 256 4 Tryz.underlying102 (by rw [eolRow_size]; kernel_rfl)
     rw [results_cell_tmp rfl]
     simp [asAddr, Result.andThen, hld]
end Go.Proofs.YtmnigckpejcaeaaGreatDoor
namespace Go.Proofs.YtmnigckpejcaeaaGreatDoor
open Go.RowKit
set_option maxRecDepth 100000
def decRen : Go.Shelf.Ren := ⟨fun | 32 => 55 | 49 => 85 | n => n, fun | 0 => 0 | 3 => 3 | 4 => 4 | 5 => 5 | 21 => 21 | 25 => 146 | 30 => 27 | 33 => 106 | 66 => 174 | 68 => 176 | 69 => 177 | n => n, fun | 2 => 2 | 3 => 3 | n => n⟩
theorem decLays : Go.Proofs.Lays7.n32 Tryz.prog decRen := by
 constructor <;> first | (intro w; kernel_rfl) | kernel_rfl
theorem decodeRune_l (s : ByteArray) (b off cap : Nat) (w : World) (hT : Lib.Utf8Tabs 2 3 w) (hp : ∀ j, j < s.size -> w.cell? ⟨b, off + j, none⟩ = some (.int .u8 (s.get! j).toNat)) :
   Calls Tryz.prog 55 #[.slice (some ⟨b, off, none⟩) s.size cap] w fun e w' => e = .returned (.tuple #[.int .i32 (Lib.decodeGo s).1, .int .i64 (Lib.decodeGo s).2]) /\ Below w.heap.size w w' :=
 Any7.utf8_DecodeRune decLays s b off cap w hT hp
end Go.Proofs.YtmnigckpejcaeaaGreatDoor
namespace Go.Proofs.YtmnigckpejcaeaaGreatDoor
open Go.RowKit
set_option maxRecDepth 1000000
def UtAt (w : World) : Prop := Lib.Utf8Tabs 2 3 w
theorem UtAt.below {w w' : World} (h : UtAt w) (hb : Below w.heap.size w w') : UtAt w' :=
 ⟨fun c hc => by rw [hb.cell (p := ⟨2, c, none⟩) (World.block_lt_of_cell? _ _ (h.1 c hc))]; exact h.1 c hc,
   fun i hi => ⟨by rw [hb.cell (p := ⟨3, 2 * i, none⟩) (World.block_lt_of_cell? _ _ (h.2 i hi).1)]; exact (h.2 i hi).1, by rw [hb.cell (p := ⟨3, 2 * i + 1, none⟩) (World.block_lt_of_cell? _ _ (h.2 i hi).2)]; exact (h.2 i hi).2⟩⟩
theorem ixString (c : UInt8) (u : World) : (callFunc 50 #[.string ⟨#[13, 10]⟩, .int .u8 (c.toNat : Int)]).run Tryz.prog u = .ok (.value (.int .i64 (Lib.indexByte [13, 10] c))) u := by
 rw [run_callFunc_extern Tryz.func50 (by kernel_rfl) (by kernel_rfl) (by kernel_rfl) (e := Extern.BytealgIndexByte.indexByte) (by kernel_rfl), Lib.run_indexByteString]
 simp [Result.andThen]
theorem ix_eol (c : UInt8) : decide (0 <= Lib.indexByte [13, 10] c) = eolC c := by
 rw [<- eolC_contains, contains_ix]
theorem eolI_one_t {x : UInt8} (h : eolC x = true) : eolI [x] = 0 := by
 have : eolF [x] 0 = 0 := eolF_at (l := [x]) (i := 0) (by simp) h
 unfold eolI
 rw [this]
 rfl
theorem eolI_one_f {x : UInt8} (h : eolC x = false) : eolI [x] = -1 := by
 have : eolF [x] 0 = 1 := by rw [eolF_step (l := [x]) (i := 0) (by simp) h, eolF_end (by simp)]
 unfold eolI
 rw [this]
 rfl
theorem ixIndex (r n : Nat) (m : Int) (u : World) (h : EncIs r n) (hm : u.cell? ⟨0, 0, none⟩ = some (.int .i64 m)) (hn : (n : Int) <= m) :
   (callFunc 56 #[.string ⟨#[13, 10]⟩, .string (Utf8.encode (r : Int))]).run Tryz.prog u = .ok (.value (.int .i64 (-1))) u := by
 obtain ⟨h2, hs, _, hi⟩ := h
 rw [run_callFunc_extern Tryz.func56 (by kernel_rfl) (by kernel_rfl) (by kernel_rfl) (e := Extern.BytealgIndex.index) (by kernel_rfl), Lib.run_indexString ⟨#[13, 10]⟩ (Utf8.encode (r : Int)) u 0 m (by kernel_rfl) hm (by omega) (by omega) (by decide)]
 rw [show (⟨#[13, 10]⟩ : ByteArray).data.toList = [13, 10] from rfl, hi]
 rfl
theorem eqlS (e : ByteArray) (h : e ≠ ⟨#[13, 10]⟩) (u : World) : (binOp .eql 9 (.string ⟨#[13, 10]⟩) (.string e)).run Tryz.prog u = .ok (.bool false) u := by
 go_simp
 exact fun hh => h (by rw [<- B_of e, <- ByteArray.toList_eq, <- hh]; rfl)
theorem wpList_conv_enc {ops : Array Oper} {rest : List Oper} {op : Oper} {a : Act} {w : World} {Q : Exit -> Act -> World -> Prop} (hgd : op.guard = none) (x : Operand) (ho : op.op = .convert 21 9 x)
   (r : Int) (hx : a.eval x = .int .i32 r) (E : ByteArray) (hE : Utf8.encode r = E) (h : wpList Tryz.prog ops Q rest (a.put op.dst (.string E)) w) : wpList Tryz.prog ops Q (op :: rest) a w :=
 wpList_plain hgd fun K hK => by
   have hc : (convert 21 9 (.int .i32 r)).run Tryz.prog w = .ok (.string E) w := by
     rw [run_convert_int_string w 21 9 .i32 r (by kernel_rfl) Tryz.underlying9, hE]
   unfold Oper.wp execOp
   simp only [ho, hx, Sem.run_bind, hc, Result.andThen_ok, Sem.run_pure]
   exact hK _ _ h
theorem wpList_eqS {ops : Array Oper} {rest : List Oper} {op : Oper} {a : Act} {w : World} {Q : Exit -> Act -> World -> Prop} (hgd : op.guard = none) (x y : Operand) (ho : op.op = .binOp .eql 9 x y 9)
   (hx : a.eval x = .string ⟨#[13, 10]⟩) (E : ByteArray) (hy : a.eval y = .string E) (hE : E ≠ ⟨#[13, 10]⟩) (h : wpList Tryz.prog ops Q rest (a.put op.dst (.bool false)) w) : wpList Tryz.prog ops Q (op :: rest) a w :=
 wpList_plain hgd fun K hK => by
   have hc := eqlS E hE w
   have hg : (eqGuard .eql 9 x y (.string ⟨#[13, 10]⟩) (.string E)).run Tryz.prog w = .ok () w := by kernel_rfl
   unfold Oper.wp execOp
   simp only [ho, hx, hy, Sem.run_bind, hg, hc, Result.andThen_ok, Sem.run_pure]
   exact hK _ _ h
theorem nxE (u : World) (j : Nat) (h : j < 2) : ∀ ty, (Instr.next (.pointer (some ⟨u.heap.size, 0, none⟩)) true ty).run Tryz.prog (u.iter ⟨#[13, 10]⟩ j) = .ok (.tuple #[.bool true, .int .i64 (j : Int), .int .i32 (([13, 10] : List UInt8)[j].toNat : Int)]) (u.iter ⟨#[13, 10]⟩ (j + 1)) := fun ty => by
 have hc : j = 0 \/ j = 1 := by omega
 rcases hc with rfl | rfl
 · exact next_ascii u [13, 10] 0 ty (by decide) (by decide)
 · exact next_ascii u [13, 10] 1 ty (by decide) (by decide)
theorem nxEnd (u : World) : ∀ ty, (Instr.next (.pointer (some ⟨u.heap.size, 0, none⟩)) true ty).run Tryz.prog (u.iter ⟨#[13, 10]⟩ 2) = .ok (.tuple #[.bool false]) (u.iter ⟨#[13, 10]⟩ 2) := fun ty => next_end u [13, 10] ty
set_option maxHeartbeats 4000000 in
theorem eol_one (l : List UInt8) (b o c : Nat) (w : World) (hA : At w (some ⟨b, o, none⟩) (l.map U8)) (h1 : l.length = 1) :
   Calls Tryz.prog 28 #[.slice (some ⟨b, o, none⟩) l.length c, .string ⟨#[13, 10]⟩] w fun e w' => e = .returned (.int .i64 (eolI l)) /\ Below w.heap.size w w' := by
 obtain ⟨x, rfl⟩ : ∃ x, l = [x] := by
   rcases l with _ | ⟨x, _ | ⟨y, r⟩⟩
   · simp at h1
   · exact ⟨x, rfl⟩
   · simp at h1
 have c0 := hA.get (j := 0) (by simp)
 simp only [List.map_cons, List.map_nil, List.getElem_cons_zero, Nat.add_zero, U8] at c0
 by_cases hx : x.toNat < 128
 · have q26 : decide ((128 : Int) <= (x.toNat : Int)) = false := decide_eq_false (by omega)
   have q26n : decide (128 <= x.toNat) = false := decide_eq_false (by omega)
   have IX := ixString x
   have q39 := ix_eol x
   cases hc : eolC x with
   | true =>
     rw [hc] at q39
     have HE : Hid (eolI [x] = 0) := Lib.hid (eolI_one_t hc)
     clear hc
     go_enter Tryz.func28, Tryz.ntmps28
     go_wp2_with fail
     go_ret
     rw [HE.out]
     exact ⟨rfl, Below.refl _ _⟩
   | false =>
     rw [hc] at q39
     have HE : Hid (eolI [x] = -1) := Lib.hid (eolI_one_f hc)
     clear hc
     go_enter Tryz.func28, Tryz.ntmps28
     go_wp2_with fail
     go_ret
     rw [HE.out]
     exact ⟨rfl, Below.refl _ _⟩
 · have q26 : decide ((128 : Int) <= (x.toNat : Int)) = true := decide_eq_true (by omega)
   have q26n : decide (128 <= x.toNat) = true := decide_eq_true (by omega)
   have hc : eolC x = false := eolC_hi (by omega)
   have hx256 : x.toNat < 256 := x.toNat_lt
   have HE : Hid (eolI [x] = -1) := Lib.hid (eolI_one_f hc)
   have n0 := nxE w 0 (by decide)
   have n1 := nxE w 1 (by decide)
   have n2 := nxEnd w
   simp only [List.getElem_cons_zero, List.getElem_cons_succ] at n0 n1
   clear hc
   go_enter Tryz.func28, Tryz.ntmps28
   go_wp2_with fail
   go_loopw [5] (fun _ wr => ∃ k : Nat, k <= 2 /\ wr = w.iter ⟨#[13, 10]⟩ k) (fun _ wr => 2 - wr.iterPos w.heap.size)
   case atStart => exact ⟨0, by omega, rfl⟩
   case round =>
     obtain ⟨k, hk, rfl⟩ := hrel
     have ck : k = 0 \/ k = 1 \/ k = 2 := by omega
     rcases ck with rfl | rfl | rfl
     · go_wp2_with fail
       go_roundw
       case rel => exact ⟨1, by omega, rfl⟩
       case measure => simp
     · go_wp2_with fail
       go_roundw
       case rel => exact ⟨2, by omega, rfl⟩
       case measure => simp
     · go_wp2_with fail
       go_ret
       rw [HE.out]
       exact ⟨rfl, (Below.refl _ _).alloc (Nat.le_refl _) _⟩
end Go.Proofs.YtmnigckpejcaeaaGreatDoor
namespace Go.Proofs.YtmnigckpejcaeaaGreatDoor
open Go.RowKit
set_option maxRecDepth 1000000
set_option maxHeartbeats 4000000 in
theorem eol_long (l : List UInt8) (b o c : Nat) (w : World) (hA : At w (some ⟨b, o, none⟩) (l.map U8)) (h8 : 8 < l.length) (hl : l.length <= 4611686018427387904) :
   Calls Tryz.prog 28 #[.slice (some ⟨b, o, none⟩) l.length c, .string ⟨#[13, 10]⟩] w fun e w' => e = .returned (.int .i64 (eolI l)) /\ Below w.heap.size w w' := by
 have q20 : ((l.length : Int) == 1) = false := beq_eq_false_iff_ne.2 (by omega)
 have q53 : decide ((8 : Int) < (l.length : Int)) = true := decide_eq_true (by omega)
 have US := Lib.hid (fun u => (q53 ▸ useSet_l (l.length : Int) u : Calls Tryz.prog 52 #[.int .i64 (l.length : Int)] u fun e w' => e = .returned (.bool true) /\ w' = u))
 have MS := Lib.hid makeSet_l
 have HI2 : (Tryz.prog.info? 102).map (·.size) = some (eolRow 2).size := by rw [eolRow_size]; kernel_rfl
 have HO : (eolRow 2).all (·.oneCell') = true := Lib.setCells_one _
 have HZ : (eolRow 2).size = (eolRow 0).size := by rw [eolRow_size, eolRow_size]
 have hv : ∀ w, (zeroValue 102).run Tryz.prog w = .ok (.agg (eolRow 0)) w := fun w => by unfold eolRow; kernel_rfl
 obtain ⟨W2, hW2⟩ : ∃ W2, (w.alloc (.cells (eolRow 2) 102)).alloc (.cells (eolRow 2) 102) = W2 := ⟨_, rfl⟩
 have HB : Hid (Below w.heap.size w W2) := Lib.hid (by rw [<- hW2]; exact ((Below.refl _ _).alloc (Nat.le_refl _) _).alloc (by simp) _)
 have HC : Hid (∀ x : UInt8, W2.cell? ⟨w.heap.size + 1, x.toNat, none⟩ = some (.bool (eolC x))) := Lib.hid (fun x => by
   rw [<- hW2, World.cell?_alloc_at _ _ _ _ (by simp)]
   exact (Lib.setCells_at [13, 10] x).trans (by rw [eolC_contains]))
 have HA2 := Lib.hid (hA.below HB.out)
 have IN := Lib.hid (fun (x : UInt8) => inSet_l (w.heap.size + 1) x (eolC x) W2 (HC.out x))
 have HG : Hid (((w.alloc (.cells (eolRow 2) 102)).alloc (.cells (eolRow 0) 102)).heap[w.heap.size + 1]? = some (.cells (eolRow 0) 102 (0, 0))) := Lib.hid (by
   have := heap_alloc_last (w.alloc (.cells (eolRow 2) 102)) (.cells (eolRow 0) 102)
   rwa [World.size_alloc] at this)
 have HST : Hid (((w.alloc (.cells (eolRow 2) 102)).alloc (.cells (eolRow 0) 102)).setRow (w.heap.size + 1) (eolRow 2) = W2) := Lib.hid (by
   have := World.setRow_alloc_new (w.alloc (.cells (eolRow 2) 102)) (eolRow 0) (eolRow 2) 102
   rw [World.size_alloc] at this
   rw [this, hW2])
 clear hA hW2
 go_enter Tryz.func28, Tryz.ntmps28
 go_wp2_with (first
   | (go_at_call 52; (with_reducible refine (US.out _).mono ?_); rintro e w2 ⟨rfl, hw⟩; rw [hw]; clear hw)
   | (go_at_call 53; (with_reducible refine (MS.out _).mono ?_); rintro e w2 ⟨rfl, hw⟩; rw [hw]; clear hw)
   | (refine wpList_store_row rfl 102 (.tmp 7) (.tmp 57) rfl (w.heap.size + 1) rfl 102 (eolRow 0) (eolRow 2) rfl HG.out HI2 HZ.symm HO ?_; rw [HST.out]))
 go_loopw [62] (fun s wr => ∃ k : Nat, s = .int .i64 k /\ k <= l.length /\ Hid (eolF l 0 = eolF l k) /\ Hid (wr = W2)) (fun s _ => l.length - (intOf s).toNat)
 case atStart => exact ⟨0, rfl, Nat.zero_le _, Lib.hid rfl, Lib.hid rfl⟩
 case round =>
   obtain ⟨k, rfl, hk, HS, HW⟩ := hrel
   obtain rfl := HW.out
   by_cases hlt : k < l.length
   · have q63 : decide ((k : Int) < (l.length : Int)) = true := decide_eq_true (by omega)
     have c0 := HA2.out.get (j := k) (by simpa using hlt)
     rw [u8_map _ _ hlt] at c0
     obtain ⟨x, hx⟩ : ∃ x, l[k] = x := ⟨_, rfl⟩
     rw [hx] at c0
     have k0 : 0 <= (k : Int) := by omega
     have k1 : (k : Int) < (l.length : Int) := by omega
     have IX := Lib.hid (IN.out x)
     cases hc : eolC x with
     | true =>
       rw [hc] at IX
       have HE : Hid (eolI l = k) := Lib.hid (by unfold eolI; rw [HS.out, eolF_at hlt (by rw [hx]; exact hc), if_pos hlt])
       clear hc hx HS
       go_wp2_with (go_at_call 54; (with_reducible refine IX.out.mono ?_); rintro e w2 ⟨rfl, rfl⟩)
       go_ret
       rw [HE.out]
       exact ⟨rfl, HB.out⟩
     | false =>
       rw [hc] at IX
       have HE : Hid (eolF l 0 = eolF l (k + 1)) := Lib.hid (by rw [HS.out, eolF_step hlt (by rw [hx]; exact hc)])
       clear hc hx HS
       go_wp2_with (go_at_call 54; (with_reducible refine IX.out.mono ?_); rintro e w2 ⟨rfl, rfl⟩)
       go_roundw
       case rel => exact ⟨k + 1, by go_num, by omega, HE, by first | exact Lib.hid rfl | exact Lib.hid trivial⟩
       case measure => simp [intOf]; omega
   · have q63 : decide ((k : Int) < (l.length : Int)) = false := decide_eq_false (by omega)
     have HE : Hid (eolI l = -1) := Lib.hid (by unfold eolI; rw [HS.out, eolF_end (by omega), if_neg (by omega)])
     clear HS
     go_wp2_with fail
     go_ret
     rw [HE.out]
     exact ⟨rfl, HB.out⟩
end Go.Proofs.YtmnigckpejcaeaaGreatDoor
namespace Go.Proofs.YtmnigckpejcaeaaGreatDoor
open Go.RowKit
set_option maxRecDepth 1000000
theorem below_iter (w : World) (s : ByteArray) (k : Nat) : Below w.heap.size w (w.iter s k) := (Below.refl _ _).alloc (Nat.le_refl _) _
set_option maxHeartbeats 8000000 in
theorem eol_short (l : List UInt8) (b o c : Nat) (w : World) (hA : At w (some ⟨b, o, none⟩) (l.map U8)) (hcap : l.length <= c) (h2 : 2 <= l.length) (h8 : l.length <= 8) (hU : UtAt w) (hM : MaxAt w) :
   Calls Tryz.prog 28 #[.slice (some ⟨b, o, none⟩) l.length c, .string ⟨#[13, 10]⟩] w fun e w' => e = .returned (.int .i64 (eolI l)) /\ Below w.heap.size w w' := by
 have q20 : ((l.length : Int) == 1) = false := beq_eq_false_iff_ne.2 (by omega)
 have q53 : decide ((8 : Int) < (l.length : Int)) = false := decide_eq_false (by omega)
 have US := Lib.hid (fun u => (q53 ▸ useSet_l (l.length : Int) u : Calls Tryz.prog 52 #[.int .i64 (l.length : Int)] u fun e w' => e = .returned (.bool false) /\ w' = u))
 obtain ⟨m, hm⟩ := hM
 have MX : Hid (∀ u, Below w.heap.size w u -> u.cell? ⟨0, 0, none⟩ = some (.int .i64 m)) := Lib.hid (fun u hu => (hu.cell (p := ⟨0, 0, none⟩) (World.block_lt_of_cell? _ _ hm)).trans hm)
 have DX : Hid (∀ (i : Nat) (u : World), i < l.length -> Below w.heap.size w u -> At u (some ⟨b, o, none⟩) (l.map U8) -> ∀ cap, Calls Tryz.prog 55 #[.slice (some ⟨b, o + i, none⟩) (l.length - i) cap] u fun e w' => e = .returned (.tuple #[.int .i32 (Lib.decodeGo (B (l.drop i))).1, .int .i64 (Lib.decodeGo (B (l.drop i))).2]) /\ Below u.heap.size u w') := Lib.hid (fun i u hi hb ha cap => by
   have h := decodeRune_l (B (l.drop i)) b (o + i) cap u (hU.below hb) (fun j hj => by
     rw [B_size, List.length_drop] at hj
     have := ha.get (j := i + j) (by simp; omega)
     rw [u8_map _ _ (by omega)] at this
     rw [Nat.add_assoc, this]
     congr 2
     rw [get_B _ _ (by simp; omega)]
     simp)
   rwa [B_size, List.length_drop] at h)
 have IX := ixString
 have HA0 := Lib.hid hA
 clear hA hU hm
 go_enter Tryz.func28, Tryz.ntmps28
 go_wp2_with (go_at_call 52; (with_reducible refine (US.out _).mono ?_); rintro e w2 ⟨rfl, hw⟩; rw [hw]; clear hw)
 go_loopw [12] (fun s wr => ∃ i : Nat, s = .int .i64 i /\ i <= l.length /\ Hid (eolF l 0 = eolF l i) /\ Hid (Below w.heap.size w wr) /\ Hid (At wr (some ⟨b, o, none⟩) (l.map U8))) (fun s _ => l.length - (intOf s).toNat)
 case atStart => exact ⟨0, rfl, Nat.zero_le _, Lib.hid rfl, Lib.hid (Below.refl _ _), HA0⟩
 case round =>
   obtain ⟨i, rfl, hi, HS, HB, HAR⟩ := hrel
   clear HA0
   have i0 : 0 <= (i : Int) := by omega
   by_cases hlt : i < l.length
   case neg =>
     have q74 : decide ((i : Int) < (l.length : Int)) = false := decide_eq_false (by omega)
     have HE : Hid (eolI l = -1) := Lib.hid (by unfold eolI; rw [HS.out, eolF_end (by omega), if_neg (by omega)])
     clear HS
     go_wp2_with fail
     go_ret
     rw [HE.out]
     exact ⟨rfl, HB.out⟩
   have q74 : decide ((i : Int) < (l.length : Int)) = true := decide_eq_true (by omega)
   have i1 : (i : Int) < (l.length : Int) := by omega
   have i2 : (i : Int) <= (l.length : Int) := by omega
   have hic : ¬ c = i := by omega
   have hic2 : i < c := by omega
   have hic3 : ¬ (c : Int) = (i : Int) := by omega
   have c0 := HAR.out.get (j := i) (by simpa using hlt)
   rw [u8_map _ _ hlt] at c0
   have h256 : l[i].toNat < 256 := l[i].toNat_lt
   by_cases h128 : l[i].toNat < 128
   · have q84 : decide ((l[i].toNat : Int) < 128) = true := decide_eq_true (by omega)
     have q84n : decide (l[i].toNat < 128) = true := decide_eq_true (by omega)
     have q91 := ix_eol l[i]
     cases hc : eolC l[i] with
     | true =>
       rw [hc] at q91
       have HE : Hid (eolI l = i) := Lib.hid (by unfold eolI; rw [HS.out, eolF_at hlt hc, if_pos hlt])
       clear hc HS h128
       go_wp2_with fail
       go_ret
       rw [HE.out]
       exact ⟨rfl, HB.out⟩
     | false =>
       rw [hc] at q91
       have HE : Hid (eolF l 0 = eolF l (i + 1)) := Lib.hid (by rw [HS.out, eolF_step hlt hc])
       clear hc HS h128
       go_wp2_with fail
       go_roundw
       case rel => exact ⟨i + 1, by go_num, by omega, HE, HB, HAR⟩
       case measure => simp [intOf]; omega
   have q84 : decide ((l[i].toNat : Int) < 128) = false := decide_eq_false (by omega)
   have q84n : decide (l[i].toNat < 128) = false := decide_eq_false (by omega)
   obtain ⟨r, n, hdec, hr1, hr2, hn1, hn4, hin, hsk, henc⟩ := dec_all l i hlt h128
   have DC : Hid (∀ (u : World), Below w.heap.size w u -> At u (some ⟨b, o, none⟩) (l.map U8) -> ∀ cap, Calls Tryz.prog 55 #[.slice (some ⟨b, o + i, none⟩) (l.length - i) cap] u fun e w' => e = .returned (.tuple #[.int .i32 (r : Int), .int .i64 (n : Int)]) /\ Below u.heap.size u w') := Lib.hid (fun u h1 h2 cap => by
     have h := DX.out i u hlt h1 h2 cap
     rw [hdec] at h
     exact h)
   have HE : Hid (eolF l 0 = eolF l (i + n)) := Lib.hid (by rw [HS.out, hsk])
   have r13 : ((r : Int) == 13) = false := beq_eq_false_iff_ne.2 (by omega)
   have r10 : ((r : Int) == 10) = false := beq_eq_false_iff_ne.2 (by omega)
   clear hdec hsk HS h128 DX
   by_cases h33 : r = 65533
   · have q101 : ((r : Int) != 65533) = false := by rw [h33]; rfl
     clear h33 henc
     go_wp2_with (go_at_call 55; (with_reducible refine (DC.out _ HB.out HAR.out _).mono ?_); rintro e w5 ⟨rfl, hb5⟩; have HB5 := Lib.hid (HB.out.trans (hb5.mono HB.out.size)); have HA5 := Lib.hid (HAR.out.below hb5); have c5 := HA5.out.get (j := i) (by simpa using hlt); rw [u8_map _ _ hlt] at c5; have M5 := MX.out _ HB5.out; obtain ⟨WI, rfl⟩ : ∃ WI : World, WI = w5 := ⟨_, rfl⟩; have n0 := nxE WI 0 (by decide); have n1 := nxE WI 1 (by decide); have n2 := nxEnd WI; simp only [List.getElem_cons_zero, List.getElem_cons_succ] at n0 n1; clear hb5)
     go_loopw [15] (fun _ wx => ∃ k : Nat, k <= 2 /\ wx = WI.iter ⟨#[13, 10]⟩ k) (fun _ wx => 2 - wx.iterPos WI.heap.size)
     case atStart => exact ⟨0, by omega, rfl⟩
     case round =>
       obtain ⟨k, hk2, rfl⟩ := hrel
       have ck : k = 0 \/ k = 1 \/ k = 2 := by omega
       rcases ck with rfl | rfl | rfl
       · go_wp2_with fail
         go_roundw
         case rel => exact ⟨1, by omega, rfl⟩
         case measure => simp
       · go_wp2_with fail
         go_roundw
         case rel => exact ⟨2, by omega, rfl⟩
         case measure => simp
       · go_wp2_with fail
         go_roundw
         case rel => exact ⟨i + n, by go_num, by omega, HE, Lib.hid (HB5.out.trans ((below_iter WI _ _).mono HB5.out.size)), Lib.hid (HA5.out.below (below_iter WI _ _))⟩
         case measure => simp [intOf]; omega
   have q101 : ((r : Int) != 65533) = true := bne_iff_ne.2 (by omega)
   have HEN := Lib.hid (henc h33)
   have n2 := (henc h33).1
   have hne0 := (henc h33).2.2.1
   obtain ⟨E, hE⟩ : ∃ E, Utf8.encode (r : Int) = E := ⟨_, rfl⟩
   rw [hE] at hne0
   have HNE := Lib.hid hne0
   clear hne0 henc
   clear h33
   by_cases hw2 : n = 2
   · have q105 : ((2 : Int) == (n : Int)) = true := beq_iff_eq.2 (by omega)
     clear hw2
     go_wp2_with (first
       | (go_at_call 55; (with_reducible refine (DC.out _ HB.out HAR.out _).mono ?_); rintro e w5 ⟨rfl, hb5⟩; have HB5 := Lib.hid (HB.out.trans (hb5.mono HB.out.size)); have HA5 := Lib.hid (HAR.out.below hb5); have c5 := HA5.out.get (j := i) (by simpa using hlt); rw [u8_map _ _ hlt] at c5; have M5 := MX.out _ HB5.out; clear hb5)
       | (refine wpList_conv_enc rfl (.tmp 107) rfl (r : Int) rfl E hE ?_)
       | (refine wpList_eqS rfl (.tmp 106) (.tmp 108) rfl rfl E rfl HNE.out ?_; go_frame))
     go_roundw
     case rel => exact ⟨i + n, by go_num, by omega, HE, HB5, HA5⟩
     case measure => simp [intOf]; omega
   have q105 : ((2 : Int) == (n : Int)) = false := beq_eq_false_iff_ne.2 (by omega)
   by_cases hmx : (n : Int) <= m
   · have q113 : decide ((n : Int) <= m) = true := decide_eq_true hmx
     go_wp2_with (go_at_call 55; (with_reducible refine (DC.out _ HB.out HAR.out _).mono ?_); rintro e w5 ⟨rfl, hb5⟩; have HB5 := Lib.hid (HB.out.trans (hb5.mono HB.out.size)); have HA5 := Lib.hid (HAR.out.below hb5); have c5 := HA5.out.get (j := i) (by simpa using hlt); rw [u8_map _ _ hlt] at c5; have M5 := MX.out _ HB5.out; have IS := ixIndex r n m _ HEN.out M5 hmx; rw [hE] at IS; clear hb5)
     go_roundw
     case rel => exact ⟨i + n, by go_num, by omega, HE, HB5, HA5⟩
     case measure => simp [intOf]; omega
   · have q113 : decide ((n : Int) <= m) = false := decide_eq_false hmx
     go_wp2_with (go_at_call 55; (with_reducible refine (DC.out _ HB.out HAR.out _).mono ?_); rintro e w5 ⟨rfl, hb5⟩; have HB5 := Lib.hid (HB.out.trans (hb5.mono HB.out.size)); have HA5 := Lib.hid (HAR.out.below hb5); have c5 := HA5.out.get (j := i) (by simpa using hlt); rw [u8_map _ _ hlt] at c5; have M5 := MX.out _ HB5.out; obtain ⟨WI, rfl⟩ : ∃ WI : World, WI = w5 := ⟨_, rfl⟩; have n0 := nxE WI 0 (by decide); have n1 := nxE WI 1 (by decide); have n2 := nxEnd WI; simp only [List.getElem_cons_zero, List.getElem_cons_succ] at n0 n1; clear hb5)
     go_loopw [15] (fun _ wx => ∃ k : Nat, k <= 2 /\ wx = WI.iter ⟨#[13, 10]⟩ k) (fun _ wx => 2 - wx.iterPos WI.heap.size)
     case atStart => exact ⟨0, by omega, rfl⟩
     case round =>
       obtain ⟨k, hk2, rfl⟩ := hrel
       have ck : k = 0 \/ k = 1 \/ k = 2 := by omega
       rcases ck with rfl | rfl | rfl
       · go_wp2_with fail
         go_roundw
         case rel => exact ⟨1, by omega, rfl⟩
         case measure => simp
       · go_wp2_with fail
         go_roundw
         case rel => exact ⟨2, by omega, rfl⟩
         case measure => simp
       · go_wp2_with fail
         go_roundw
         case rel => exact ⟨i + n, by go_num, by omega, HE, Lib.hid (HB5.out.trans ((below_iter WI _ _).mono HB5.out.size)), Lib.hid (HA5.out.below (below_iter WI _ _))⟩
         case measure => simp [intOf]; omega
end Go.Proofs.YtmnigckpejcaeaaGreatDoor
namespace Go.Proofs.YtmnigckpejcaeaaGreatDoor
open Go.RowKit
set_option maxRecDepth 1000000
theorem eol_l (l : List UInt8) (b o c : Nat) (w : World) (hA : At w (some ⟨b, o, none⟩) (l.map U8)) (hcap : l.length <= c) (h1 : 0 < l.length) (hl : l.length <= 4611686018427387904) (hU : UtAt w) (hM : MaxAt w) :
   Calls Tryz.prog 28 #[.slice (some ⟨b, o, none⟩) l.length c, .string ⟨#[13, 10]⟩] w fun e w' => e = .returned (.int .i64 (eolI l)) /\ Below w.heap.size w w' := by
 by_cases h : l.length = 1
 · exact eol_one l b o c w hA h
 by_cases h8 : 8 < l.length
 · exact eol_long l b o c w hA h8 hl
 · exact eol_short l b o c w hA hcap (by omega) (by omega) hU hM
end Go.Proofs.YtmnigckpejcaeaaGreatDoor
namespace Go.Proofs.YtmnigckpejcaeaaGreatDoor
open Go.RowKit Go.Shelf
set_option maxRecDepth 1000000
attribute [local go_sem] Oper.semAt_some
theorem eolI_drop (l : List UInt8) (i : Nat) (h : i < l.length) : eolI (l.drop i) = if eolF l i < l.length then ((eolF l i : Int) - i) else -1 := by
 have hd := eolF_drop l i (l.drop i).length 0 (by omega)
 rw [Nat.add_zero] at hd
 have hb := eolF_bound l l.length i (by omega) (by omega)
 unfold eolI
 rw [List.length_drop]
 by_cases hlt : eolF l i < l.length
 · rw [if_pos (by omega), if_pos hlt]; omega
 · rw [if_neg (by omega), if_neg hlt]
theorem at_drop {w : World} {b o : Nat} {l : List UInt8} (h : At w (some ⟨b, o, none⟩) (l.map U8)) (i : Nat) : At w (some ⟨b, o + i, none⟩) ((l.drop i).map U8) := fun j hj => by
 rw [List.length_map, List.length_drop] at hj
 have := h.get (j := i + j) (by simp; omega)
 refine ⟨b, o + i, rfl, ?_⟩
 rw [Nat.add_assoc, this]
 simp
theorem conv_cut (l : List UInt8) (b o i cap : Nat) (w : World) (hA : At w (some ⟨b, o, none⟩) (l.map U8)) (hi : i < l.length) (m : Nat) (hm : i + m <= l.length) :
   (convert 27 9 (.slice (some ⟨b, o + i, none⟩) m cap)).run Tryz.prog w = .ok (.string (B (cutF l i (i + m)))) w := by
 have hc : (cutF l i (i + m)).length = m := by unfold cutF; simp; omega
 have h := run_convert_bytes_back (P := Tryz.prog) w 27 9 5 ⟨b, o + i, none⟩ cap (cutF l i (i + m)) Tryz.underlying27 Tryz.underlying5 Tryz.underlying9 (fun j hj => by
   rw [hc] at hj
   have := hA.get (j := i + j) (by simp; omega)
   rw [addO, Nat.add_assoc, this]
   simp [U8, cutF])
 rw [hc] at h
 exact h
end Go.Proofs.YtmnigckpejcaeaaGreatDoor
