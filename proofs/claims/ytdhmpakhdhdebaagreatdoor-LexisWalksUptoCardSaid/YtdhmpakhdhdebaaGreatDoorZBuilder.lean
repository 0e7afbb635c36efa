/-
  strings.Builder's WriteString on a builder that the call has made itself: contract (the kit's own is not laid at these dumps: the loader refuses copyCheck's panic, which no such builder comes to). By an AI agent.
-/
import Derived.Test.YtdhmpakhdhdebaaGreatDoorZChars
namespace Go.Proofs.YtdhmpakhdhdebaaGreatDoor
open Go.Lib (hid)
open Go.RowKit
set_option maxRecDepth 100000
theorem builderSize : (Tryz.prog.info? 117).map (·.size) = some 2 := by kernel_rfl
theorem builderLies : liesAt Tryz.prog Tryz.prog.depth 117 (2 / Tryz.prog.cellsOf 117) 0 117 1 = true := by kernel_rfl
theorem copyCheck_used (b : Nat) (w : World) (h0 : w.cell? ⟨b, 0, none⟩ = some (.pointer (some ⟨b, 0, none⟩))) :
  Calls Tryz.prog 80 #[.pointer (some ⟨b, 0, none⟩)] w fun e w' => e = .returned (.tuple #[]) /\ w' = w := by
 obtain ⟨j, hj, _⟩ := Option.map_eq_some_iff.1 builderSize
 go_enter Tryz.func80, Tryz.ntmps80
 go_wp2
 rw [Lib.run_neq_ptr_same w _ Tryz.underlying115 hj]
 go_wp2
 go_end0
 exact ⟨rfl, rfl⟩
theorem copyCheck_fresh (b : Nat) (w : World) (h0 : w.cell? ⟨b, 0, none⟩ = some (.pointer none)) (hsh : w.shape? b = some (117, 2)) (hfz : w.frozen? ⟨b, 0, none⟩ = false) :
  Calls Tryz.prog 80 #[.pointer (some ⟨b, 0, none⟩)] w fun e w' => e = .returned (.tuple #[]) /\ w' = w.setCell ⟨b, 0, none⟩ (.pointer (some ⟨b, 0, none⟩)) := by
 obtain ⟨j, hj, hjs⟩ := Option.map_eq_some_iff.1 builderSize
 have to_ := Lib.run_to_unsafe (P := Tryz.prog) w ⟨b, 0, none⟩ Tryz.underlying115 Tryz.underlying130 hj (by rw [hjs]; decide) hsh (Nat.zero_lt_succ 1)
 have from_ := Lib.run_from_unsafe (P := Tryz.prog) w ⟨b, 0, none⟩ Tryz.underlying130 Tryz.underlying115 hj hsh builderLies
 have call_ : (callFunc 125 #[.pointer (some ⟨b, 0, none⟩)]).run Tryz.prog w = .ok (.value (.pointer (some ⟨b, 0, none⟩))) w := by
  rw [run_callFunc_extern Tryz.func125 (by kernel_rfl) (by kernel_rfl) (by kernel_rfl) (e := Extern.AbiNoEscape.same) (by kernel_rfl), Lib.run_noEscape]
  rfl
 clear hj hjs hsh
 go_enter Tryz.func80, Tryz.ntmps80
 go_wp2_with fail
 go_end0
 exact ⟨rfl, rfl⟩
theorem copyCheck_any (B_ b : Nat) (bs : List Value) (w : World) (h : Lib.IsBuilder 117 5 B_ b bs w) :
  Calls Tryz.prog 80 #[.pointer (some ⟨b, 0, none⟩)] w fun e w' => e = .returned (.tuple #[]) /\ Lib.BuilderAt 117 5 B_ b (.pointer (some ⟨b, 0, none⟩)) bs w' /\ Below B_ w w' := by
 rcases h with h | h
 ·refine (copyCheck_fresh b w h.cell0 h.shape h.frozen0).mono ?_
  rintro e w' ⟨he, rfl⟩
  exact ⟨he, h.used _, (Below.refl _ _).setCell h.1 _⟩
 ·refine (copyCheck_used b w h.cell0).mono ?_
  rintro e w' ⟨he, rfl⟩
  exact ⟨he, h, Below.refl _ _⟩
def BuildsB (w : World) (B_ b : Nat) (l : List UInt8) : Prop := Lib.IsBuilder 117 5 B_ b (l.map U8) w
theorem infoByte : (Tryz.prog.info? 5).map (fun i => (i.zero, i.size, i.bytes)) = some (some (.int .u8 0), 1, 1) := by kernel_rfl
theorem strCells_l (l : List UInt8) : Lib.strCells (B l) = l.map U8 := by simp [Lib.strCells, B, U8]
set_option maxHeartbeats 800000 in
theorem writeString_l (B_ b : Nat) (l m : List UInt8) (w : World) (h : BuildsB w B_ b l) (hlen : l.length + m.length <= 140737488355328) (hBw : B_ <= w.heap.size) :
  Calls Tryz.prog 48 #[.pointer (some ⟨b, 0, none⟩), .string (B m)] w fun e w' => e = .returned (.tuple #[.int .i64 m.length, .nilIface]) /\ BuildsB w' B_ b (l ++ m) /\ Below B_ w w' := by
 obtain ⟨i0, hi, hz0, hz1, hz2⟩ := info_parts infoByte
 have CC := hid (copyCheck_any B_ b (l.map U8) w h)
 clear h
 go_enter Tryz.func48, Tryz.ntmps48
 go_wp2_with (first | (go_at_call 80; refine CC.out.mono ?_; rintro e w1 ⟨rfl, ⟨hB, v, hbk, hown, hne⟩, hb1⟩; have c1 : w1.cell? ⟨b, 1, none⟩ = some v := (Lib.cell_of_heap hbk 1).trans rfl; have HBK := hid hbk; have HNE := hid hne; clear hbk hne) | (at_builtin; refine Lib.wpList_append_own_string _ rfl (.tmp 12) (.tmp 13) 35 9 rfl B_ 5 i0 Tryz.underlying35 Tryz.underlying9 hi hz0 hz1 hz2 _ _ _ rfl hown (B m) rfl ?c3 ?c4 ?c5 ?_))
 case c3 => have := B_size m; simp; unfold maxLen; omega
 case c4 => have := B_size m; simp; omega
 case c5 => have := hb1.size; omega
 intro v' w2 hown' hgrow _
 have hlt : b < w1.heap.size := World.block_lt_of_cell? _ _ c1
 have hb2 : w2.heap[b]? = some (.cells #[.pointer (some ⟨b, 0, none⟩), v] 117 (0, 0)) := by
  rw [hgrow.block b hlt (fun e => HNE.out e.symm)]
  exact HBK.out
 have d1 : w2.cell? ⟨b, 1, none⟩ = some v := (Lib.cell_of_heap hb2 1).trans rfl
 have f1 : w2.frozen? ⟨b, 1, none⟩ = false := Lib.frozen_of_heap hb2 1
 have hput : ∀ x, w2.ownsRow B_ 5 1 x ((l ++ m).map U8).length ((l ++ m).map U8) -> Lib.BuilderAt 117 5 B_ b (.pointer (some ⟨b, 0, none⟩)) ((l ++ m).map U8) (w2.setCell ⟨b, 1, none⟩ x) := fun x hx => Lib.BuilderAt.put hB hb2 hx (by decide)
 have hown2 : w2.ownsRow B_ 5 1 v' ((l ++ m).map U8).length ((l ++ m).map U8) := by
  rw [strCells_l] at hown'
  simpa using hown'
 have HP := hid (hput v' hown2)
 have hbw : Below B_ w (w2.setCell ⟨b, 1, none⟩ v') := (hb1.grown hgrow (by have := hb1.size; omega) (fun k hk => (hown.lt k hk).1)).setCell (p := ⟨b, 1, none⟩) hB _
 have HBW := hid hbw
 obtain ⟨ao, n', cap, hv'⟩ : ∃ ao n' cap, v' = .slice ao n' cap := by
  rcases hown2.2 with ⟨hv, _⟩ | ⟨g, cap, cur, hv, _⟩
  ·exact ⟨_, _, _, hv⟩
  ·exact ⟨_, _, _, hv⟩
 clear hown hown' hown2 hput hb2 hbw hgrow HBK HNE c1
 rw [hv'] at HP HBW ⊢
 clear hv'
 go_wp2_with fail
 go_ret2
 exact ⟨rfl, .inr HP.out, HBW.out⟩
end Go.Proofs.YtdhmpakhdhdebaaGreatDoor
namespace Go.Proofs.YtdhmpakhdhdebaaGreatDoor
open Go.Lib (hid)
open Go.RowKit
set_option maxRecDepth 100000
theorem ownsRow_kind {w : World} {B : Nat} {e : TypeId} {v : Value} {n : Nat} {xs : List Value} (h : w.ownsRow B e 1 v n xs) : ∀ g, v.ownBlock = some g -> ∃ c fz, w.heap[g]? = some (.cells c e fz) :=
 Lib.ownsRowF_kind (World.ownsRowF_of h)
theorem ownsRow_iterAt {w : World} {B : Nat} {e : TypeId} {v : Value} {n : Nat} {xs : List Value} (h : w.ownsRow B e 1 v n xs) {k : Nat} {s : ByteArray} {pos : Nat} (hk : w.heap[k]? = some (.stringIter s pos)) (pos' : Nat) : (w.iterAt k s pos').ownsRow B e 1 v n xs := by
 refine ⟨h.1, ?_⟩
 rcases h.2 with h2 | ⟨g, cap, cur, h1, h2, h3, h4⟩
 ·exact .inl h2
 ·refine .inr ⟨g, cap, cur, h1, h2, ?_, h4⟩
  rw [Lib.iterAt_other _ _ _ _ _ (fun e => by rw [e, hk] at h3; cases h3)]
  exact h3
theorem builderAt_iterAt {B_ b : Nat} {p : Value} {bs : List Value} {w : World} (h : Lib.BuilderAt 117 5 B_ b p bs w) {k : Nat} {s : ByteArray} {pos : Nat} (hk : w.heap[k]? = some (.stringIter s pos)) (pos' : Nat) : Lib.BuilderAt 117 5 B_ b p bs (w.iterAt k s pos') := by
 obtain ⟨hB, v, hb, hown, hne⟩ := h
 refine ⟨hB, v, ?_, ownsRow_iterAt hown hk pos', hne⟩
 rw [Lib.iterAt_other _ _ _ _ _ (fun e => by rw [e, hk] at hb; cases hb)]
 exact hb
theorem BuildsB.iterAt {w : World} {B_ b : Nat} {l : List UInt8} (h : BuildsB w B_ b l) {k : Nat} {s : ByteArray} {pos : Nat} (hk : w.heap[k]? = some (.stringIter s pos)) (pos' : Nat) : BuildsB (w.iterAt k s pos') B_ b l :=
 h.elim (fun x => .inl (builderAt_iterAt x hk pos')) (fun x => .inr (builderAt_iterAt x hk pos'))
end Go.Proofs.YtdhmpakhdhdebaaGreatDoor
