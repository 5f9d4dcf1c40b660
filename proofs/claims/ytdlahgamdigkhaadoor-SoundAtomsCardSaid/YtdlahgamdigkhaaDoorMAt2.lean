/- 24 texts of the proof, put together, less what is not used; what a tool printed stands among them. -/
import Derived.Shelf.Small.Strs
import Derived.Shelf.Strings.Search1
import Derived.Shelf.Strings.Search2
import Derived.Shelf.Strings.Search3
import Derived.Shelf.Strings.Cut
import Derived.Shelf.Strings.Count
import Derived.Shelf.LaysM
import Derived.Shelf.Strings.Shaped
import Derived.Shelf.Strings.Split
import Derived.Shelf.Unicode.DecodeSlow
import Derived.Shelf.Unicode.DecodeAny
import Derived.Test.YtdlahgamdigkhaaDoorProg
import Derived.Below
import Derived.Test.YtdlahgamdigkhaaDoorRows
import Derived.PinnedBridge
import Derived.Lib.LaidIn
import Derived.Lib.LaidU8T
import Derived.Deep.Draws
import Derived.Deep.AppendLies
import Derived.Maps.AppendAt
import Derived.OwnWalk
import Derived.Laws.BytesArg
import Derived.Laws.MakeOwn
import Derived.Laws.OwnMore
import Derived.Deep.OwnRows
import Derived.Tactics
import Derived.Lib.ConvBytes
import Derived.Laws.Slices
import Derived.WalkKit
import Derived.KernelRfl
import Derived.RowKit3
import Derived.Deep.LoopGhost
import Derived.Deep.QuietTactic
import Derived.BigQuiet
import Derived.WideLaws
import Derived.Deep.DeepCutAuto
import Derived.Deep.CutBlock
import Derived.Deep.RegionHeld3
import Derived.Laws.Rows
import Derived.Lib.AppendStr
import Derived.ArgAppend
import Derived.Laws.IdiomCopy
import Derived.OrdersHeld
import Derived.Laws.BitsLemmas
import Derived.RowKit
import Derived.Outline
import Derived.Deep.DeepMust
import Derived.StillTailTactics
import Derived.Deep.RegionLaw
import Derived.IntWalk
import Derived.Lib.ValidLaws
import Derived.Lib.TrimUEq
import Derived.Lib.MapLaws
import Derived.Test.YtdlahgamdigkhaaDoorMAt1
set_option linter.unusedVariables false
set_option linter.unusedSimpArgs false
set_option maxRecDepth 100000
namespace Go.Proofs
open Go.RowKit
theorem sAt2_0 {p_ : Prop} (h_ : p_ := by
 exact ⟨by first | rfl | (simp; done) | (simp [*]; done) | (simp; exact (fun l_ : List UInt8 => (show l_.isEmpty = !(l_ != []) from by cases l_ <;> rfl)) _), by repeat (first | exact Drawn0.refl _ | apply Drawn0.step)⟩) : p_ := h_
theorem sAt2_1 {p_ : Prop} (h_ : p_ := by
 exact ⟨by first | rfl | (simp [errW_none, errW_some] <;> rfl) | (simp [*, errW_none, errW_some] <;> rfl), by repeat (first | (with_reducible first | exact HB.out | apply below_alloc | apply pw_below_drewN | apply below_drew1 | refine below_set ?_ GE192.out) | exact HB.out)⟩) : p_ := h_
theorem sAt2_2 {p_ : Prop} (h_ : p_ := by
 have e : Go.Lib.decodeN n b0 b1 b2 b3 = (65533, 1) := by
  unfold Go.Lib.decodeN; rw [if_neg a1, if_neg (by omega), if_neg (by omega), if_neg (by omega)]
 rw [e, if_pos ⟨rfl, rfl⟩, if_neg (by omega)]; rfl) : p_ := h_
end Go.Proofs
namespace Go.Proofs
open Go.Shelf
def Tryd.lays137_ren : Go.Shelf.Ren := ⟨fun | 137 => 53 | 217 => 69 | 266 => 80 | n => n, fun | 9 => 9 | 5 => 5 | 3 => 3 | n => n, fun | n => n⟩
theorem Tryd.lays137 : Go.Proofs.Lays.n137 Tryd.prog Tryd.lays137_ren := {
 mixed := by kernel_rfl
 f137 := Tryd.func53.trans (congrArg some (by kernel_rfl))
 f217 := Tryd.func69.trans (congrArg some (by kernel_rfl))
 f266 := Tryd.func80.trans (congrArg some (by kernel_rfl))
 t3 := Tryd.underlying3
 a3 := Tryd.isAgg3
 z3 := Tryd.sizeOf3
 v3 := Tryd.zeroValue3
 t5 := Tryd.underlying5
 a5 := Tryd.isAgg5
 z5 := Tryd.sizeOf5
 v5 := Tryd.zeroValue5
 t9 := Tryd.underlying9
 a9 := Tryd.isAgg9
 z9 := Tryd.sizeOf9
 v9 := Tryd.zeroValue9 }
open Go.RowKit in
/-- strings.IndexByte: "IndexByte returns the index of the first instance of c in s, or -1 if c is not present in s.": IT RETURNS 'Lib.indexByte s c'; the world is as it was. (LAID: no walk: one application.) -/
theorem Tryd.strings_IndexByte (s : ByteArray) (c : Int) (w : World) :
  Calls Tryd.prog 53 #[.string s, .int .u8 c] w fun e w' => e = .returned (.int .i64 (Lib.indexByte s.data.toList c.toNat.toUInt8)) ∧ w' = w := Any.strings_IndexByte Tryd.lays137 s c w
def Tryd.lays145_ren : Go.Shelf.Ren := ⟨fun | 145 => 46 | 220 => 58 | 219 => 73 | 217 => 69 | 225 => 82 | 224 => 83 | 267 => 84 | 266 => 80 | 314 => 88 | n => n, fun | 9 => 9 | 4 => 4 | 59 => 87 | 3 => 3 | 5 => 5 | 46 => 107 | 146 => 120 | 51 => 102 | n => n, fun | 1 => 0 | n => n⟩
theorem Tryd.lays145 : Go.Proofs.Lays.n145 Tryd.prog Tryd.lays145_ren := {
 mixed := by kernel_rfl
 f145 := Tryd.func46.trans (congrArg some (by kernel_rfl))
 f217 := Tryd.func69.trans (congrArg some (by kernel_rfl))
 f219 := Tryd.func73.trans (congrArg some (by kernel_rfl))
 f220 := Tryd.func58.trans (congrArg some (by kernel_rfl))
 f224 := Tryd.func83.trans (congrArg some (by kernel_rfl))
 f225 := Tryd.func82.trans (congrArg some (by kernel_rfl))
 f266 := Tryd.func80.trans (congrArg some (by kernel_rfl))
 f267 := Tryd.func84.trans (congrArg some (by kernel_rfl))
 f314 := Tryd.func88.trans (congrArg some (by kernel_rfl))
 t3 := Tryd.underlying3
 a3 := Tryd.isAgg3
 z3 := Tryd.sizeOf3
 v3 := Tryd.zeroValue3
 t4 := Tryd.underlying4
 a4 := Tryd.isAgg4
 z4 := Tryd.sizeOf4
 v4 := Tryd.zeroValue4
 t5 := Tryd.underlying5
 a5 := Tryd.isAgg5
 z5 := Tryd.sizeOf5
 v5 := Tryd.zeroValue5
 t9 := Tryd.underlying9
 a9 := Tryd.isAgg9
 z9 := Tryd.sizeOf9
 v9 := Tryd.zeroValue9
 t46 := Tryd.underlying107
 a46 := Tryd.isAgg107
 z46 := Tryd.sizeOf107
 v46 := Tryd.zeroValue107
 t51 := Tryd.underlying102
 a51 := Tryd.isAgg102
 z51 := Tryd.sizeOf102
 v51 := Tryd.zeroValue102
 t59 := Tryd.underlying87
 a59 := Tryd.isAgg87
 z59 := Tryd.sizeOf87
 v59 := Tryd.zeroValue87
 t146 := Tryd.underlying120
 a146 := Tryd.isAgg120
 z146 := Tryd.sizeOf120
 v146 := Tryd.zeroValue120
 g1 := by kernel_rfl }
open Go.RowKit Go.Lib in
/-- strings.Cut: "Cut slices s around the first instance of sep, returning the text before and after sep. The found result reports whether sep appears in s. If sep does not appear in s, cut returns s, "", false.": IT RETURNS 'Lib.cut s sep'; the world is as it was but for the count of draws. (LAID: no walk: one application.) -/
theorem Tryd.strings_Cut (s sep : ByteArray) (m : Int) (w : World) (hs : s.size < 4294967281) (hm : w.cell? ⟨0, 0, none⟩ = some (.int .i64 m)) :
  Calls Tryd.prog 46 #[.string s, .string sep] w fun e w' => e = .returned (.tuple #[.string ⟨(Lib.cut s.data.toList sep.data.toList).1.toArray⟩, .string ⟨(Lib.cut s.data.toList sep.data.toList).2.1.toArray⟩, .bool (Lib.cut s.data.toList sep.data.toList).2.2]) ∧ ∃ n, w' = w.drewN n := Any.strings_Cut Tryd.lays145 s sep m w hs hm
def Tryd.lays146_ren : Go.Shelf.Ren := ⟨fun | 146 => 85 | 221 => 89 | 268 => 90 | 138 => 91 | 143 => 92 | 195 => 93 | 197 => 94 | 218 => 95 | 219 => 73 | 260 => 96 | 217 => 69 | 225 => 82 | 224 => 83 | 267 => 84 | 266 => 80 | 314 => 88 | n => n, fun | 9 => 9 | 31 => 22 | 3 => 3 | 4 => 4 | 0 => 0 | 105 => 124 | 21 => 21 | 5 => 5 | 46 => 107 | 119 => 126 | 139 => 129 | 138 => 128 | 146 => 120 | 51 => 102 | n => n, fun | 1 => 0 | 3 => 1 | 4 => 2 | n => n⟩
theorem Tryd.lays146 : Go.Proofs.Lays.n146 Tryd.prog Tryd.lays146_ren := {
 mixed := by kernel_rfl
 f138 := Tryd.func91.trans (congrArg some (by kernel_rfl))
 f143 := Tryd.func92.trans (congrArg some (by kernel_rfl))
 f146 := Tryd.func85.trans (congrArg some (by kernel_rfl))
 f195 := Tryd.func93.trans (congrArg some (by kernel_rfl))
 f197 := Tryd.func94.trans (congrArg some (by kernel_rfl))
 f217 := Tryd.func69.trans (congrArg some (by kernel_rfl))
 f218 := Tryd.func95.trans (congrArg some (by kernel_rfl))
 f219 := Tryd.func73.trans (congrArg some (by kernel_rfl))
 f221 := Tryd.func89.trans (congrArg some (by kernel_rfl))
 f224 := Tryd.func83.trans (congrArg some (by kernel_rfl))
 f225 := Tryd.func82.trans (congrArg some (by kernel_rfl))
 f260 := Tryd.func96.trans (congrArg some (by kernel_rfl))
 f266 := Tryd.func80.trans (congrArg some (by kernel_rfl))
 f267 := Tryd.func84.trans (congrArg some (by kernel_rfl))
 f268 := Tryd.func90.trans (congrArg some (by kernel_rfl))
 f314 := Tryd.func88.trans (congrArg some (by kernel_rfl))
 t0 := Tryd.underlying0
 a0 := Tryd.isAgg0
 z0 := Tryd.sizeOf0
 v0 := Tryd.zeroValue0
 t3 := Tryd.underlying3
 a3 := Tryd.isAgg3
 z3 := Tryd.sizeOf3
 v3 := Tryd.zeroValue3
 t4 := Tryd.underlying4
 a4 := Tryd.isAgg4
 z4 := Tryd.sizeOf4
 v4 := Tryd.zeroValue4
 t5 := Tryd.underlying5
 a5 := Tryd.isAgg5
 z5 := Tryd.sizeOf5
 v5 := Tryd.zeroValue5
 t9 := Tryd.underlying9
 a9 := Tryd.isAgg9
 z9 := Tryd.sizeOf9
 v9 := Tryd.zeroValue9
 t21 := Tryd.underlying21
 a21 := Tryd.isAgg21
 z21 := Tryd.sizeOf21
 v21 := Tryd.zeroValue21
 t31 := Tryd.underlying22
 a31 := Tryd.isAgg22
 z31 := Tryd.sizeOf22
 v31 := Tryd.zeroValue22
 t46 := Tryd.underlying107
 a46 := Tryd.isAgg107
 z46 := Tryd.sizeOf107
 v46 := Tryd.zeroValue107
 t51 := Tryd.underlying102
 a51 := Tryd.isAgg102
 z51 := Tryd.sizeOf102
 v51 := Tryd.zeroValue102
 t105 := Tryd.underlying124
 a105 := Tryd.isAgg124
 z105 := Tryd.sizeOf124
 v105 := Tryd.zeroValue124
 t119 := Tryd.underlying126
 a119 := Tryd.isAgg126
 z119 := Tryd.sizeOf126
 t138 := Tryd.underlying128
 a138 := Tryd.isAgg128
 z138 := Tryd.sizeOf128
 v138 := Tryd.zeroValue128
 t139 := Tryd.underlying129
 a139 := Tryd.isAgg129
 z139 := Tryd.sizeOf129
 v139 := Tryd.zeroValue129
 t146 := Tryd.underlying120
 a146 := Tryd.isAgg120
 z146 := Tryd.sizeOf120
 v146 := Tryd.zeroValue120
 g1 := by kernel_rfl
 g3 := by kernel_rfl
 g4 := by kernel_rfl }
open Go.RowKit Go.Lib in
/-- strings.Split. (LAID: no walk: one application.) -/
theorem Tryd.strings_Split (s sep : ByteArray) (m : Int) (w : World) (hs : s.size < 4294967281) (hm : w.cell? ⟨0, 0, none⟩ = some (.int .i64 m)) (h1 : 1 ≤ sep.size) :
  Calls Tryd.prog 85 #[.string s, .string sep] w fun e w' =>
   e = .returned (.slice (some ⟨w.heap.size, 0, none⟩) (Lib.countB s sep + 1) (Lib.countB s sep + 1)) ∧ w' = w.alloc (.cells ((Lib.splitB sep 0 (Lib.countB s sep) s).map Value.string).toArray 9) := Any.strings_Split Tryd.lays146 (by kernel_rfl) s sep m w hs hm h1
end Go.Proofs
namespace Go.Proofs.YtdlahgamdigkhaaDoor
open Go.RowKit
def Laid (w : World) : Prop := ∃ m : Int, w.cell? ⟨0, 0, none⟩ = some (.int .i64 m)
theorem Laid.below {w w' : World} (h : Laid w) (hb : Below w.heap.size w w') : Laid w' := by
 obtain ⟨m, hm⟩ := h
 exact ⟨m, (hb.cell (World.block_lt_of_cell? w _ hm)).trans hm⟩
end Go.Proofs.YtdlahgamdigkhaaDoor
namespace Go.Proofs.YtdlahgamdigkhaaDoor
open Go.Shelf Go.RowKit
set_option maxRecDepth 100000
abbrev lst : List (String × DataW Unit) := [("unicode/utf8.acceptRanges", Rows.laid_unicode_utf8_acceptRanges), ("unicode/utf8.first", Rows.laid_unicode_utf8_first)]
theorem accept_eq : (Rows.laid_unicode_utf8_acceptRanges : DataW Unit) = Lib.acceptData := by kernel_rfl
theorem laid_sh {W : World} (h : W.ShapedOpen Tryd.prog) : Laid W :=
 Go.Proofs.cell_of_shapedOpen_int (zero := #[.int .i64 0]) (t := 3) h (of_decide_eq_true (by kernel_rfl)) (by kernel_rfl) rfl (by kernel_rfl) (by kernel_rfl) Tryd.underlying3
noncomputable def laidWorld (os : Os) : World :=
 let w0 := World.holding Tryd.prog os ⟨#[], #[], []⟩
 let put (h : Array Obj) (g : Nat) (cs : Array Value) : Array Obj := h.modify g fun
  | .cells _ t frozen => .cells cs t frozen
  | o => o
 let h1 := put w0.heap 1 (Lib.firstTab.map fun z => Value.int .u8 z).toArray
 let h2 := put h1 2 ((List.range 16).flatMap fun i => [Value.int .u8 (Lib.accLo i), Value.int .u8 (Lib.accHi i)]).toArray
 { w0 with heap := h2 }
theorem laid_met (os : Os) (args : Array Value) : laidMet Tryd.prog lst ((laidWorld os).forCall (fun _ _ => 0) ⟨#[], args, []⟩).memory := by
 have h : LaidIn Tryd.prog ((laidWorld os).forCall (fun _ _ => 0) ⟨#[], args, []⟩).memory [("unicode/utf8.acceptRanges", Lib.acceptData), ("unicode/utf8.first", Lib.firstData)] [1, 2] :=
  LaidIn.of_run [1, 2] 8 (by kernel_rfl) (by kernel_rfl) (by kernel_rfl) (by kernel_rfl)
 have e : lst = [("unicode/utf8.acceptRanges", Lib.acceptData), ("unicode/utf8.first", Lib.firstData)] := by
  unfold lst
  rw [accept_eq, show (Rows.laid_unicode_utf8_first : DataW Unit) = Lib.firstData from Pinned.utf8First_eq]
 rw [e]
 exact h.met
end Go.Proofs.YtdlahgamdigkhaaDoor
namespace Go.Proofs.YtdlahgamdigkhaaDoor.Lw
open Go.RowKit Go.Proofs.YtdlahgamdigkhaaDoorW.PrintWords Go.Proofs.YtdlahgamdigkhaaDoorW.PrintLast Go.Proofs.YtdlahgamdigkhaaDoorW.PrintMore
def lowB (s : ByteArray) : ByteArray := ⟨s.data.map fun c => if 65 ≤ c ∧ c ≤ 90 then c + 32 else c⟩
def low (x : Int) : Int := if 65 ≤ x ∧ x ≤ 90 then x + 32 else x
theorem low_str (s : ByteArray) : strOfNums ((bytesOf s).map low) = lowB s := by
 have h : ∀ c : UInt8, UInt8.ofNat (low (c.toNat : Int)).toNat = if 65 ≤ c ∧ c ≤ 90 then c + 32 else c := by
  intro c
  have hc : c.toNat < 256 := c.toNat_lt
  unfold low
  have e1 : (65 ≤ c ∧ c ≤ 90) ↔ (65 ≤ (c.toNat : Int) ∧ (c.toNat : Int) ≤ 90) := by
   rw [UInt8.le_iff_toNat_le, UInt8.le_iff_toNat_le]
   show (65 ≤ c.toNat ∧ c.toNat ≤ 90) ↔ _
   omega
  by_cases h : 65 ≤ (c.toNat : Int) ∧ (c.toNat : Int) ≤ 90
  ·rw [if_pos h, if_pos (e1.2 h)]
   apply UInt8.toNat_inj.1
   rw [UInt8.toNat_ofNat', UInt8.toNat_add]
   show ((c.toNat : Int) + 32).toNat % 256 = (c.toNat + 32) % 256
   omega
  ·rw [if_neg h, if_neg (fun hh => h (e1.1 hh))]
   apply UInt8.toNat_inj.1
   rw [UInt8.toNat_ofNat']
   omega
 apply ByteArray.ext
 apply Array.ext'
 rw [strOfNums_data]
 simp only [lowB, bytesOf, List.map_map, Array.toList_map]
 exact List.map_congr_left (fun c _ => h c)
def Row (w : World) (gb : Nat) (xs : List Int) : Prop := ∃ (zs : Array Value) (m : Nat), w.heap[gb]? = some (.cells ((xs.map (Value.int .u8)).toArray ++ zs) 5 (m, m + 1)) ∧ xs.length ≤ m ∧ xs.length ≤ 1000000
theorem Row.cell {w : World} {gb : Nat} {xs : List Int} (h : Row w gb xs) (i : Nat) (hi : i < xs.length) : w.cell? ⟨gb, i, none⟩ = some (.int .u8 xs[i]) := by
 obtain ⟨zs, m, hb, _⟩ := h
 rw [cell_of_row w gb i _ _ _ hb, Array.getElem?_append_left (by simpa using hi)]
 simp [hi]
theorem Row.frozen {w : World} {gb : Nat} {xs : List Int} (h : Row w gb xs) (i : Nat) (hi : i < xs.length) : w.frozen? ⟨gb, i, none⟩ = false := by
 obtain ⟨zs, m, hb, hm⟩ := h
 simp [World.frozen?, hb]
 intro h2; omega
theorem Row.set {w : World} {gb : Nat} {xs : List Int} (h : Row w gb xs) (i : Nat) (hi : i < xs.length) (y : Int) : Row (w.setCell ⟨gb, i, none⟩ (.int .u8 y)) gb (xs.set i y) := by
 obtain ⟨zs, m, hb, hm⟩ := h
 refine ⟨zs, m, ?_, by simpa using hm⟩
 have h1 : (w.setCell ⟨gb, i, none⟩ (.int .u8 y)).heap[gb]? = some (.cells (((xs.map (Value.int .u8)).toArray ++ zs).setIfInBounds i (.int .u8 y)) 5 (m, m + 1)) := by
  simp [World.setCell, Array.getElem?_modify, hb]
 rw [h1]
 congr 2
 apply Array.ext'
 simp only [Array.toList_setIfInBounds, Array.toList_append, List.map_set]
 rw [List.set_append_left _ _ (by simpa using hi)]
theorem Row.C {w : World} {gb : Nat} {xs : List Int} (h : Row w gb xs) : (Kd.int .u8).C w (some ⟨gb, 0, none⟩) xs.length xs :=
 Kd.C_of_reads (enc := Value.int .u8) (d := (0 : Int)) (h1 := fun _ => rfl) ⟨rfl, by
  obtain ⟨zs, m, hb, hm, hl⟩ := h
  omega, fun hp => ⟨_, rfl, fun j hj => by
  rw [add_plain, h.cell j hj]
  simp [List.getD_eq_getElem?_getD, List.getElem?_eq_getElem hj]⟩⟩
set_option maxHeartbeats 4000000 in
set_option maxRecDepth 100000 in
theorem lower_calls (s : ByteArray) (w : World) (hs : s.size ≤ 1000000) :
  Calls Tryd.prog 59 #[.string s] w fun e w' => e = .returned (.string (lowB s)) ∧ Below w.heap.size w w' := by
 have hcv := Lib.run_convert_string_bytes (P := Tryd.prog) w 9 42 5 s Tryd.underlying9 Tryd.underlying42 Tryd.underlying5
 obtain ⟨xs, hxs⟩ : ∃ xs, xs = bytesOf s := ⟨_, rfl⟩
 obtain ⟨gb, hgb⟩ : ∃ gb, gb = w.heap.size := ⟨_, rfl⟩
 obtain ⟨w1, hw1⟩ : ∃ w1, w1 = Lib.bytesWorld w 5 s := ⟨_, rfl⟩
 obtain ⟨c, hcc⟩ : ∃ c, c = grownCap w s.size 0 5 := ⟨_, rfl⟩
 have hge : s.size ≤ c := by rw [hcc]; exact grownCap_ge w s.size 0 5
 rw [← hgb, ← hw1, ← hcc] at hcv
 have HR1 : Aside0 (Row w1 gb xs) := ⟨by
  rw [hw1, hgb]
  refine ⟨Array.replicate (grownCap w s.size 0 5 - s.size) (.int .u8 0), (Lib.bytesCells w 5 s).size, ?_, ?_, by rw [hxs, bytesOf_length]; exact hs⟩
  ·rw [Lib.bytesWorld_at_new]
   congr 2
   unfold Lib.bytesCells
   congr 1
   apply Array.ext'
   rw [hxs]
   simp [bytesOf]
  ·rw [hxs, bytesOf_length]
   simp [Lib.bytesCells]⟩
 have HB1 : Aside0 (Below w.heap.size w w1) := ⟨by rw [hw1]; exact ⟨rfl, rfl, rfl, by rw [Lib.bytesWorld_size]; omega, fun k hk => Lib.bytesWorld_at_old _ _ _ _ hk⟩⟩
 have HXL : Aside0 (xs.length = s.size) := ⟨by rw [hxs, bytesOf_length]⟩
 have HLS : Aside0 (strOfNums (xs.map low) = lowB s) := ⟨by rw [hxs]; exact low_str s⟩
 have HBY : Aside0 (∀ x ∈ xs, 0 ≤ x ∧ x ≤ 255) := ⟨by
  rw [hxs]; intro x hx
  obtain ⟨c, _, rfl⟩ := List.mem_map.1 hx
  have := c.toNat_lt
  omega⟩
 obtain ⟨n, hn⟩ : ∃ n, n = s.size := ⟨_, rfl⟩
 rw [← hn] at hcv HXL hge hs
 obtain ⟨L, hL⟩ : ∃ L, L = lowB s := ⟨_, rfl⟩
 rw [← hL] at HLS ⊢
 have HGW : Aside0 (w.heap.size ≤ gb) := ⟨by omega⟩
 clear hxs hgb hw1 hcc hn hL
 go_enter Tryd.func59, Tryd.ntmps59
 go_wp2_with fail
 clear hcv
 go_loopg [10] n (fun gk v10 wr => ∃ i : Nat, v10 = .int .i64 i ∧ Aside0 (i ≤ n) ∧ Aside0 (n - i ≤ gk) ∧ Aside0 (Row wr gb ((xs.take i).map low ++ xs.drop i)) ∧ Aside0 (Below w.heap.size w wr))
 case atStart => exact ⟨0, rfl, ⟨Nat.zero_le _⟩, ⟨by omega⟩, ⟨by simpa using HR1.out⟩, HB1⟩
 case round =>
  clear HR1 HB1
  obtain ⟨i, rfl, HI, HGK, HR, HB⟩ := hrel
  have hi := HI.out
  by_cases hlt : i < n
  ·have l1 : decide (i < n) = true := decide_eq_true hlt
   have l2 : (i : Int) < (n : Int) := by omega
   have hix : i < xs.length := by rw [HXL.out]; exact hlt
   obtain ⟨x, hx⟩ : ∃ x, x = xs[i] := ⟨_, rfl⟩
   obtain ⟨ys, hys⟩ : ∃ ys, ys = (xs.take i).map low ++ xs.drop i := ⟨_, rfl⟩
   have hil : i < ys.length := by rw [hys, List.length_append, List.length_map, List.length_take, List.length_drop]; omega
   have hdr : xs.drop i = x :: xs.drop (i + 1) := by rw [List.drop_eq_getElem_cons hix, hx]
   have hml : ((xs.take i).map low).length = i := by rw [List.length_map, List.length_take]; omega
   have hyi : ys[i] = x := by
    simp only [hys]
    rw [List.getElem_append_right (by omega)]
    simp only [hdr, hml, Nat.sub_self, List.getElem_cons_zero]
   have hset : ys.set i (low x) = (xs.take (i + 1)).map low ++ xs.drop (i + 1) := by
    rw [hys, hdr, List.set_append_right _ _ (by omega), hml, Nat.sub_self, List.set_cons_zero, List.take_succ_eq_append_getElem hix, List.map_append, ← hx, List.append_assoc]
    rfl
   have hself : ys.set i x = ys := by rw [← hyi]; exact List.set_getElem_self hil
   rw [← hys] at HR
   have m0 : wr.cell? ⟨gb, i, none⟩ = some (.int .u8 x) := by rw [← hyi]; exact HR.out.cell i hil
   have f0 := HR.out.frozen i hil
   have hxb := HBY.out x (by rw [hx]; exact List.getElem_mem _)
   obtain ⟨hx0, hx255⟩ := hxb
   have HSET := Aside0.mk hset
   have HLT := Aside0.mk hlt
   have HIL := Aside0.mk hil
   have HSELF := Aside0.mk hself
   clear hset hyi hys hix hx hlt hil hself hdr hml
   by_cases hc : 65 ≤ x ∧ x ≤ 90
   ·have l3 : decide (65 ≤ x) = true := decide_eq_true hc.1
    have l4 : decide (x ≤ 90) = true := decide_eq_true hc.2
    have hlow : low x = x + 32 := by rw [low, if_pos hc]
    obtain ⟨hc1, hc2⟩ := hc
    have HLOW := Aside0.mk hlow
    clear hlow
    go_wp2_with fail
    go_roundg (n - (i + 1))
    case measure => have := HLT.out; have := HGK.out; omega
    case rel =>
     exact ⟨i + 1, by go_num, ⟨by have := HLT.out; omega⟩, ⟨Nat.le_refl _⟩, ⟨by rw [← HSET.out, HLOW.out, show x + 97 - 65 = x + 32 by omega]; exact HR.out.set i HIL.out _⟩, ⟨HB.out.setCell (p := ⟨gb, i, none⟩) HGW.out _⟩⟩
   ·have hlow : low x = x := by rw [low, if_neg hc]
    have HRW : Aside0 (Row wr gb ((xs.take (i + 1)).map low ++ xs.drop (i + 1))) := ⟨by rw [← HSET.out, hlow, HSELF.out]; exact HR.out⟩
    clear hlow
    by_cases h1 : 65 ≤ x
    ·have l3 : decide (65 ≤ x) = true := decide_eq_true h1
     have l4 : decide (x ≤ 90) = false := decide_eq_false (by omega)
     clear hc h1
     go_wp2_with fail
     go_roundg (n - (i + 1))
     case measure => have := HLT.out; have := HGK.out; omega
     case rel => exact ⟨i + 1, by go_num, ⟨by have := HLT.out; omega⟩, ⟨Nat.le_refl _⟩, HRW, HB⟩
    ·have l3 : decide (65 ≤ x) = false := decide_eq_false h1
     clear hc h1
     go_wp2_with fail
     go_roundg (n - (i + 1))
     case measure => have := HLT.out; have := HGK.out; omega
     case rel => exact ⟨i + 1, by go_num, ⟨by have := HLT.out; omega⟩, ⟨Nat.le_refl _⟩, HRW, HB⟩
  ·have l1 : decide (i < n) = false := decide_eq_false hlt
   have l2 : ¬ (i : Int) < (n : Int) := by omega
   have hR : Row wr gb (xs.map low) := by
    have h := HR.out
    rw [List.take_of_length_le (by rw [HXL.out]; omega), List.drop_eq_nil_of_le (by rw [HXL.out]; omega), List.append_nil] at h
    exact h
   have hC := hR.C
   rw [List.length_map, HXL.out] at hC
   have hcv2 := Kd.C_string (dst := 9) (c := c) Tryd.underlying42 Tryd.underlying5 Tryd.underlying9 hC
   rw [HLS.out] at hcv2
   clear hC hR HR
   go_wp2
   go_ret
   exact ⟨rfl, HB.out⟩
end Go.Proofs.YtdlahgamdigkhaaDoor.Lw
namespace Go.Proofs.YtdlahgamdigkhaaDoor.Pr
open Go.RowKit Go.Proofs.YtdlahgamdigkhaaDoorW.PrintWords Go.Proofs.YtdlahgamdigkhaaDoorW.PrintLast Go.Proofs.YtdlahgamdigkhaaDoorW.PrintMore
attribute [local go_sem] max2_int min2_int max_two min_two max_three min_three max_four min_four
def errW : Option Int → Value
 | none => .nilIface
 | some c => .iface 0 (.int .i64 c)
theorem errW_none : errW none = .nilIface := rfl
theorem errW_some (c : Int) : errW (some c) = .iface 0 (.int .i64 c) := rfl
theorem info5 : (Tryd.prog.info? 5).map (fun i => (i.zero, i.size, i.bytes)) = some (some (.int .u8 0), 1, 1) := by kernel_rfl
theorem info9 : (Tryd.prog.info? 9).map (fun i => (i.zero, i.size, i.bytes)) = some (some (.string ⟨#[]⟩), 1, 16) := by kernel_rfl
theorem info69 : (Tryd.prog.info? 69).map (fun i => (i.zero, i.size, i.bytes)) = some (some (.agg #[(.int .i64 0), (.int .i64 0), (.string ⟨#[]⟩)]), 3, 32) := by kernel_rfl
structure S33 where
 f0 : ByteArray
 f1 : ByteArray
def z33 : S33 := ⟨(⟨#[]⟩ : ByteArray), (⟨#[]⟩ : ByteArray)⟩
def k33 : Kd S33 := Kd.iso (Kd.pair Kd.string Kd.string) (fun x : S33 => (x.f0, x.f1))
theorem k33_open {w : World} {x : S33} {cs : List Value} (h : k33.K w x cs) : cs = [.string x.f0, .string x.f1] := by
 obtain ⟨_, _, rfl, rfl, rfl⟩ := h
 exact rfl
theorem k33_mk (w : World) (x : S33)  : k33.K w x [.string x.f0, .string x.f1] := ⟨[.string x.f0], [.string x.f1], rfl, rfl, rfl⟩
theorem k33_mkM (w : World) (base : Nat) (ok : Nat → Prop) (x : S33)  : k33.M w base ok x [.string x.f0, .string x.f1] := ⟨[.string x.f0], [.string x.f1], rfl, rfl, rfl⟩
def rd_T33 (xs : List S33) (i : Int) : S33 := xs.getD i.toNat z33
theorem at_T33 {w : World} {A : Option Addr} {n : Nat} {xs : List S33} (h : Kd.C k33 w A n xs) (i : Int) (h0 : 0 ≤ i) (h1 : i < n) : ∃ ad , A = some ad ∧ w.cell? (ad.add (i.toNat * 2)) = some (.string (rd_T33 xs i).f0) ∧ w.cell? ⟨(ad.add (i.toNat * 2)).block, (ad.add (i.toNat * 2)).off + 1, none⟩ = some (.string (rd_T33 xs i).f1) := by
 obtain ⟨ad, c, e, _, hK, hc0⟩ := Kd.C_get h z33 i h0 h1
 have hc : ∀ j u, c[j]? = some u → w.cell? (ad.add (i.toNat * 2 + j)) = some u := hc0
 obtain rfl := k33_open hK
 exact ⟨ad, e, hc 0 _ rfl, by rw [← add_field _ _ 1 (by omega)]; exact hc 1 _ rfl⟩
structure S39 where
 f0 : Int
 f1 : S33
 f2 : (List S39)
def z39 : S39 := ⟨(0 : Int), z33, ([] : List S39)⟩
def F39 (d : Kd S39) : Kd S39 := Kd.iso (Kd.pair (Kd.int .i64) (Kd.pair k33 (Kd.slice 39 d))) (fun x : S39 => (x.f0, x.f1, x.f2))
theorem mono39 : Kd.Mono F39 := Kd.mono_iso _ (Kd.mono_pair (Kd.mono_const _) (Kd.mono_pair (Kd.mono_const _) (Kd.mono_slice 39 Kd.mono_id)))
theorem sub39 : Kd.Sub F39 [39] := Kd.sub_iso _ (Kd.sub_pair (Kd.sub_const _ (by decide)) (Kd.sub_pair (Kd.sub_const _ (by decide)) (Kd.sub_slice 39 (by decide) Kd.sub_id)))
theorem sz39 : ∀ n, (Kd.upto F39 4 [39] n).sz = 4 := Kd.upto_sz (fun _ => rfl)
def k39 : Kd S39 := Kd.fix F39 4 [39] sz39 (Kd.upto_E sub39)
theorem k39_open {w : World} {x : S39} {cs : List Value} (h : k39.K w x cs) : ∃ A3 c3, cs = [.int .i64 x.f0, .string x.f1.f0, .string x.f1.f1, .slice A3 x.f2.length c3] ∧ x.f2.length ≤ c3 ∧ k39.C w A3 x.f2.length x.f2 := by
 obtain ⟨n, h⟩ := h
 cases n with
 | zero => exact h.elim
 | succ n =>
  obtain ⟨_, _, rfl, rfl, ⟨_, _, rfl, s1, ⟨A3, c3, rfl, l3, g3⟩⟩⟩ := h
  obtain rfl := k33_open s1
  exact ⟨A3, c3, rfl, l3, Kd.fix_C g3⟩
theorem k39_mk (w : World) (x : S39) {A3 : Option Addr} {c3 : Nat} (l3 : x.f2.length ≤ c3) (g3 : k39.C w A3 x.f2.length x.f2) : k39.K w x [.int .i64 x.f0, .string x.f1.f0, .string x.f1.f1, .slice A3 x.f2.length c3] := by
 obtain ⟨n3, q3⟩ := Kd.fix_C_back mono39 g3
 have r3 := Kd.upto_C_le mono39 sz39 (show n3 ≤ n3 by omega) q3
 exact ⟨n3 + 1, ⟨[.int .i64 x.f0], [.string x.f1.f0, .string x.f1.f1, .slice A3 x.f2.length c3], rfl, rfl, ⟨[.string x.f1.f0, .string x.f1.f1], [.slice A3 x.f2.length c3], rfl, (k33_mk w x.f1 ), ⟨A3, c3, rfl, l3, r3⟩⟩⟩⟩
theorem k39_openF {W : World} {ok : Nat → Prop} {x : S39} {cs : List Value} (h : Kd.FK k39 W ok x cs) : ∃ A3 c3, cs = [.int .i64 x.f0, .string x.f1.f0, .string x.f1.f1, .slice A3 x.f2.length c3] ∧ x.f2.length ≤ c3 ∧ Kd.F k39 W ok A3 x.f2.length x.f2 := by
 obtain ⟨A3, c3, rfl, l3, _⟩ := k39_open (Kd.FK_now h)
 exact ⟨A3, c3, rfl, l3, (fun W' hW => by obtain ⟨A3_, c3_, he, l3_, g3_⟩ := k39_open (h W' hW); injection (Option.some.inj (show some (Value.slice A3 x.f2.length c3) = some (Value.slice A3_ x.f2.length c3_) from congrArg (fun l => l[3]?) he)) with ha_ _ _; rw [ha_]; exact g3_)⟩
theorem k39_mkF (W : World) (ok : Nat → Prop) (x : S39) {A3 : Option Addr} {c3 : Nat} (l3 : x.f2.length ≤ c3) (g3 : Kd.F k39 W ok A3 x.f2.length x.f2) : Kd.FK k39 W ok x [.int .i64 x.f0, .string x.f1.f0, .string x.f1.f1, .slice A3 x.f2.length c3] := fun W2 hW => k39_mk W2 x l3 (g3 W2 hW)
def rd_T39 (xs : List S39) (i : Int) : S39 := xs.getD i.toNat z39
theorem at_T39 {w : World} {A : Option Addr} {n : Nat} {xs : List S39} (h : Kd.C k39 w A n xs) (i : Int) (h0 : 0 ≤ i) (h1 : i < n) : ∃ ad A3 c3, A = some ad ∧ w.cell? (ad.add (i.toNat * 4)) = some (.int .i64 (rd_T39 xs i).f0) ∧ w.cell? ⟨(ad.add (i.toNat * 4)).block, (ad.add (i.toNat * 4)).off + 1, none⟩ = some (.string (rd_T39 xs i).f1.f0) ∧ w.cell? ⟨(ad.add (i.toNat * 4)).block, (ad.add (i.toNat * 4)).off + 2, none⟩ = some (.string (rd_T39 xs i).f1.f1) ∧ w.cell? ⟨(ad.add (i.toNat * 4)).block, (ad.add (i.toNat * 4)).off + 3, none⟩ = some (.slice A3 (rd_T39 xs i).f2.length c3) ∧ (rd_T39 xs i).f2.length ≤ c3 ∧ k39.C w A3 (rd_T39 xs i).f2.length (rd_T39 xs i).f2 := by
 obtain ⟨ad, c, e, _, hK, hc0⟩ := Kd.C_get h z39 i h0 h1
 have hc : ∀ j u, c[j]? = some u → w.cell? (ad.add (i.toNat * 4 + j)) = some u := hc0
 obtain ⟨A3, c3, rfl, l3, g3⟩ := k39_open hK
 exact ⟨ad, A3, c3, e, hc 0 _ rfl, by rw [← add_field _ _ 1 (by omega)]; exact hc 1 _ rfl, by rw [← add_field _ _ 2 (by omega)]; exact hc 2 _ rfl, by rw [← add_field _ _ 3 (by omega)]; exact hc 3 _ rfl, l3, g3⟩
structure S69 where
 f0 : Int
 f1 : Int
 f2 : ByteArray
def z69 : S69 := ⟨(0 : Int), (0 : Int), (⟨#[]⟩ : ByteArray)⟩
def k69 : Kd S69 := Kd.iso (Kd.pair (Kd.int .i64) (Kd.pair (Kd.int .i64) Kd.string)) (fun x : S69 => (x.f0, x.f1, x.f2))
theorem k69_open {w : World} {x : S69} {cs : List Value} (h : k69.K w x cs) : cs = [.int .i64 x.f0, .int .i64 x.f1, .string x.f2] := by
 obtain ⟨_, _, rfl, rfl, ⟨_, _, rfl, rfl, rfl⟩⟩ := h
 exact rfl
theorem k69_mkM (w : World) (base : Nat) (ok : Nat → Prop) (x : S69)  : k69.M w base ok x [.int .i64 x.f0, .int .i64 x.f1, .string x.f2] := ⟨[.int .i64 x.f0], [.int .i64 x.f1, .string x.f2], rfl, rfl, ⟨[.int .i64 x.f1], [.string x.f2], rfl, rfl, rfl⟩⟩
def rd_T69 (xs : List S69) (i : Int) : S69 := xs.getD i.toNat z69
theorem at_T69 {w : World} {A : Option Addr} {n : Nat} {xs : List S69} (h : Kd.C k69 w A n xs) (i : Int) (h0 : 0 ≤ i) (h1 : i < n) : ∃ ad , A = some ad ∧ w.cell? (ad.add (i.toNat * 3)) = some (.int .i64 (rd_T69 xs i).f0) ∧ w.cell? ⟨(ad.add (i.toNat * 3)).block, (ad.add (i.toNat * 3)).off + 1, none⟩ = some (.int .i64 (rd_T69 xs i).f1) ∧ w.cell? ⟨(ad.add (i.toNat * 3)).block, (ad.add (i.toNat * 3)).off + 2, none⟩ = some (.string (rd_T69 xs i).f2) := by
 obtain ⟨ad, c, e, _, hK, hc0⟩ := Kd.C_get h z69 i h0 h1
 have hc : ∀ j u, c[j]? = some u → w.cell? (ad.add (i.toNat * 3 + j)) = some u := hc0
 obtain rfl := k69_open hK
 exact ⟨ad, e, hc 0 _ rfl, by rw [← add_field _ _ 1 (by omega)]; exact hc 1 _ rfl, by rw [← add_field _ _ 2 (by omega)]; exact hc 2 _ rfl⟩
structure S47 where
 f0 : ByteArray
 f1 : (List ByteArray)
 f2 : (List ByteArray)
 f3 : Bool
def z47 : S47 := ⟨(⟨#[]⟩ : ByteArray), ([] : List ByteArray), ([] : List ByteArray), false⟩
def k47 : Kd S47 := Kd.iso (Kd.pair Kd.string (Kd.pair (Kd.slice 9 Kd.string) (Kd.pair (Kd.slice 9 Kd.string) Kd.bool))) (fun x : S47 => (x.f0, x.f1, x.f2, x.f3))
theorem k47_open {w : World} {x : S47} {cs : List Value} (h : k47.K w x cs) : ∃ A1 c1 A2 c2, cs = [.string x.f0, .slice A1 x.f1.length c1, .slice A2 x.f2.length c2, .bool x.f3] ∧ x.f1.length ≤ c1 ∧ Kd.string.C w A1 x.f1.length x.f1 ∧ x.f2.length ≤ c2 ∧ Kd.string.C w A2 x.f2.length x.f2 := by
 obtain ⟨_, _, rfl, rfl, ⟨_, _, rfl, ⟨A1, c1, rfl, l1, g1⟩, ⟨_, _, rfl, ⟨A2, c2, rfl, l2, g2⟩, rfl⟩⟩⟩ := h
 exact ⟨A1, c1, A2, c2, rfl, l1, g1, l2, g2⟩
theorem k47_mkM (w : World) (base : Nat) (ok : Nat → Prop) (x : S47) {v1 : Value} (g1 : Kd.string.R 9 w base ok v1 x.f1) {v2 : Value} (g2 : Kd.string.R 9 w base ok v2 x.f2) : k47.M w base ok x [.string x.f0, v1, v2, .bool x.f3] := ⟨[.string x.f0], [v1, v2, .bool x.f3], rfl, rfl, ⟨[v1], [v2, .bool x.f3], rfl, ⟨v1, rfl, g1⟩, ⟨[v2], [.bool x.f3], rfl, ⟨v2, rfl, g2⟩, rfl⟩⟩⟩
def rd_T47 (xs : List S47) (i : Int) : S47 := xs.getD i.toNat z47
theorem at_T47 {w : World} {A : Option Addr} {n : Nat} {xs : List S47} (h : Kd.C k47 w A n xs) (i : Int) (h0 : 0 ≤ i) (h1 : i < n) : ∃ ad A1 c1 A2 c2, A = some ad ∧ w.cell? (ad.add (i.toNat * 4)) = some (.string (rd_T47 xs i).f0) ∧ w.cell? ⟨(ad.add (i.toNat * 4)).block, (ad.add (i.toNat * 4)).off + 1, none⟩ = some (.slice A1 (rd_T47 xs i).f1.length c1) ∧ w.cell? ⟨(ad.add (i.toNat * 4)).block, (ad.add (i.toNat * 4)).off + 2, none⟩ = some (.slice A2 (rd_T47 xs i).f2.length c2) ∧ w.cell? ⟨(ad.add (i.toNat * 4)).block, (ad.add (i.toNat * 4)).off + 3, none⟩ = some (.bool (rd_T47 xs i).f3) ∧ (rd_T47 xs i).f1.length ≤ c1 ∧ Kd.string.C w A1 (rd_T47 xs i).f1.length (rd_T47 xs i).f1 ∧ (rd_T47 xs i).f2.length ≤ c2 ∧ Kd.string.C w A2 (rd_T47 xs i).f2.length (rd_T47 xs i).f2 := by
 obtain ⟨ad, c, e, _, hK, hc0⟩ := Kd.C_get h z47 i h0 h1
 have hc : ∀ j u, c[j]? = some u → w.cell? (ad.add (i.toNat * 4 + j)) = some u := hc0
 obtain ⟨A1, c1, A2, c2, rfl, l1, g1, l2, g2⟩ := k47_open hK
 exact ⟨ad, A1, c1, A2, c2, e, hc 0 _ rfl, by rw [← add_field _ _ 1 (by omega)]; exact hc 1 _ rfl, by rw [← add_field _ _ 2 (by omega)]; exact hc 2 _ rfl, by rw [← add_field _ _ 3 (by omega)]; exact hc 3 _ rfl, l1, g1, l2, g2⟩
structure S41 where
 f0 : Bool
 f1 : S39
def z41 : S41 := ⟨false, z39⟩
def k41 : Kd S41 := Kd.iso (Kd.pair Kd.bool k39) (fun x : S41 => (x.f0, x.f1))
theorem k41_open {w : World} {x : S41} {cs : List Value} (h : k41.K w x cs) : ∃ A4 c4, cs = [.bool x.f0, .int .i64 x.f1.f0, .string x.f1.f1.f0, .string x.f1.f1.f1, .slice A4 x.f1.f2.length c4] ∧ x.f1.f2.length ≤ c4 ∧ k39.C w A4 x.f1.f2.length x.f1.f2 := by
 obtain ⟨_, _, rfl, rfl, s1⟩ := h
 obtain ⟨A4, c4, rfl, l4, g4⟩ := k39_open s1
 exact ⟨A4, c4, rfl, l4, g4⟩
theorem k41_mk (w : World) (x : S41) {A4 : Option Addr} {c4 : Nat} (l4 : x.f1.f2.length ≤ c4) (g4 : k39.C w A4 x.f1.f2.length x.f1.f2) : k41.K w x [.bool x.f0, .int .i64 x.f1.f0, .string x.f1.f1.f0, .string x.f1.f1.f1, .slice A4 x.f1.f2.length c4] := ⟨[.bool x.f0], [.int .i64 x.f1.f0, .string x.f1.f1.f0, .string x.f1.f1.f1, .slice A4 x.f1.f2.length c4], rfl, rfl, (k39_mk w x.f1 l4 g4)⟩
theorem k41_openF {W : World} {ok : Nat → Prop} {x : S41} {cs : List Value} (h : Kd.FK k41 W ok x cs) : ∃ A4 c4, cs = [.bool x.f0, .int .i64 x.f1.f0, .string x.f1.f1.f0, .string x.f1.f1.f1, .slice A4 x.f1.f2.length c4] ∧ x.f1.f2.length ≤ c4 ∧ Kd.F k39 W ok A4 x.f1.f2.length x.f1.f2 := by
 obtain ⟨A4, c4, rfl, l4, _⟩ := k41_open (Kd.FK_now h)
 exact ⟨A4, c4, rfl, l4, (fun W' hW => by obtain ⟨A4_, c4_, he, l4_, g4_⟩ := k41_open (h W' hW); injection (Option.some.inj (show some (Value.slice A4 x.f1.f2.length c4) = some (Value.slice A4_ x.f1.f2.length c4_) from congrArg (fun l => l[4]?) he)) with ha_ _ _; rw [ha_]; exact g4_)⟩
def rd_T41 (xs : List S41) (i : Int) : S41 := xs.getD i.toNat z41
theorem at_T41 {w : World} {A : Option Addr} {n : Nat} {xs : List S41} (h : Kd.C k41 w A n xs) (i : Int) (h0 : 0 ≤ i) (h1 : i < n) : ∃ ad A4 c4, A = some ad ∧ w.cell? (ad.add (i.toNat * 5)) = some (.bool (rd_T41 xs i).f0) ∧ w.cell? ⟨(ad.add (i.toNat * 5)).block, (ad.add (i.toNat * 5)).off + 1, none⟩ = some (.int .i64 (rd_T41 xs i).f1.f0) ∧ w.cell? ⟨(ad.add (i.toNat * 5)).block, (ad.add (i.toNat * 5)).off + 2, none⟩ = some (.string (rd_T41 xs i).f1.f1.f0) ∧ w.cell? ⟨(ad.add (i.toNat * 5)).block, (ad.add (i.toNat * 5)).off + 3, none⟩ = some (.string (rd_T41 xs i).f1.f1.f1) ∧ w.cell? ⟨(ad.add (i.toNat * 5)).block, (ad.add (i.toNat * 5)).off + 4, none⟩ = some (.slice A4 (rd_T41 xs i).f1.f2.length c4) ∧ (rd_T41 xs i).f1.f2.length ≤ c4 ∧ k39.C w A4 (rd_T41 xs i).f1.f2.length (rd_T41 xs i).f1.f2 := by
 obtain ⟨ad, c, e, _, hK, hc0⟩ := Kd.C_get h z41 i h0 h1
 have hc : ∀ j u, c[j]? = some u → w.cell? (ad.add (i.toNat * 5 + j)) = some u := hc0
 obtain ⟨A4, c4, rfl, l4, g4⟩ := k41_open hK
 exact ⟨ad, A4, c4, e, hc 0 _ rfl, by rw [← add_field _ _ 1 (by omega)]; exact hc 1 _ rfl, by rw [← add_field _ _ 2 (by omega)]; exact hc 2 _ rfl, by rw [← add_field _ _ 3 (by omega)]; exact hc 3 _ rfl, by rw [← add_field _ _ 4 (by omega)]; exact hc 4 _ rfl, l4, g4⟩
end Go.Proofs.YtdlahgamdigkhaaDoor.Pr
namespace Go.Proofs.YtdlahgamdigkhaaDoor.Ps
open Go.RowKit Go.Proofs.YtdlahgamdigkhaaDoor.Pr
abbrev Tk := S69
abbrev Cd := S39
abbrev Res (α : Type) := Except (Int × Int) (α × Nat)
def nxt (T : List Tk) (e : Int) (p : Nat) : Tk := if h : p < T.length then T[p] else ⟨0, e, ⟨#[]⟩⟩
theorem bytes_toList {a b : ByteArray} : a.toList = b.toList ↔ a = b := by
 constructor
 ·intro h
  rw [ByteArray.toList_eq, ByteArray.toList_eq] at h
  exact ByteArray.ext (Array.ext' h)
 ·rintro rfl; rfl
def memB (s : ByteArray) (ws : List ByteArray) : Bool := ws.any fun w => decide (s = w)
theorem memB_cons (s a : ByteArray) (l : List ByteArray) : memB s (a :: l) = (decide (s = a) || memB s l) := rfl
section
variable (T : List Tk) (e : Int)
def isP (ws : List ByteArray) (p : Nat) : Bool := decide ((nxt T e p).f0 = 1) && memB (nxt T e p).f2 ws
def takeP (kind : Int) (p : Nat) : Res ByteArray := if (nxt T e p).f0 = kind then .ok ((nxt T e p).f2, p + 1) else .error (8, (nxt T e p).f1)
def wordP (ws : List ByteArray) (p : Nat) : Res ByteArray := if isP T e ws p then takeP T e 1 p else .error (8, (nxt T e p).f1)
def kidsL (one : Nat → Res Cd) (w : ByteArray) : Nat → List Cd → Nat → Res (List Cd)
 | 0, acc, p => .ok (acc, p)
 | f + 1, acc, p => if isP T e [w] p then (match one (p + 1) with
  | .error x => .error x
  | .ok (c, q) => kidsL one w f (acc ++ [c]) q) else .ok (acc, p)
def cond0 (k : Int) (l : List Cd) : Cd := ⟨k, ⟨⟨#[]⟩, ⟨#[]⟩⟩, l⟩
def kidsP (kind : Int) (w : ByteArray) (one : Nat → Res Cd) (p : Nat) : Res Cd :=
 match one p with
 | .error x => .error x
 | .ok (c, q) => match kidsL T e one w (T.length + 1 - q) [c] q with
  | .error x => .error x
  | .ok (l, r) => if l.length = 1 then .ok (l.getD 0 z39, r) else .ok (cond0 kind l, r)
def wNot : ByteArray := ⟨#[110, 111, 116]⟩
def wAnd : ByteArray := ⟨#[97, 110, 100]⟩
def wOr : ByteArray := ⟨#[111, 114]⟩
def wTrue : ByteArray := ⟨#[116, 114, 117, 101]⟩
def wFalse : ByteArray := ⟨#[102, 97, 108, 115, 101]⟩
def lowB (s : ByteArray) : ByteArray := ⟨s.data.map fun c => if 65 ≤ c ∧ c ≤ 90 then c + 32 else c⟩
def wMethod : ByteArray := ⟨#[109, 101, 116, 104, 111, 100]⟩
def wDest : ByteArray := ⟨#[100, 101, 115, 116]⟩
def wScheme : ByteArray := ⟨#[115, 99, 104, 101, 109, 101]⟩
def wHeader : ByteArray := ⟨#[104, 101, 97, 100, 101, 114]⟩
def wHost : ByteArray := ⟨#[104, 111, 115, 116]⟩
def wPath : ByteArray := ⟨#[112, 97, 116, 104]⟩
def wSame : ByteArray := ⟨#[115, 97, 109, 101, 45, 111, 114, 105, 103, 105, 110]⟩
def wTrusted : ByteArray := ⟨#[116, 114, 117, 115, 116, 101, 100]⟩
def wCreds : ByteArray := ⟨#[99, 114, 101, 100, 115]⟩
def wCors : ByteArray := ⟨#[99, 111, 114, 115]⟩
def atomWords : List ByteArray := [wTrue, wFalse, wSame, wTrusted, wCreds, wCors, wMethod, wDest, wScheme, wHeader, wHost, wPath]
def atomT (w : ByteArray) (f : ByteArray → ByteArray) : Res ByteArray → Res Cd
 | .error x => .error x
 | .ok (t, q) => .ok (⟨3, ⟨w, f t⟩, []⟩, q)
def atomK (w : ByteArray) (q : Nat) : Res Cd :=
 if w = wTrue then .ok (cond0 1 [], q) else if w = wFalse then .ok (cond0 2 [], q)
 else if w = wMethod then atomT w id (takeP T e 1 q)
 else if w = wDest ∨ w = wScheme ∨ w = wHeader then atomT w lowB (takeP T e 1 q)
 else if w = wHost ∨ w = wPath then atomT w id (takeP T e 2 q)
 else .ok (⟨3, ⟨w, ⟨#[]⟩⟩, []⟩, q)
def atomP (p : Nat) : Res Cd :=
 match wordP T e atomWords p with
 | .error x => .error x
 | .ok (w, q) => atomK T e w q
def closeK (c : Cd) : Res ByteArray → Res Cd
 | .error x => .error x
 | .ok (_, r) => .ok (c, r)
def closeP : Res Cd → Res Cd
 | .error x => .error x
 | .ok (c, q) => closeK c (takeP T e 4 q)
def orP (one : Nat → Res Cd) (p : Nat) : Res Cd := kidsP T e 6 wOr (kidsP T e 5 wAnd one) p
def wrapNot : Res Cd → Res Cd
 | .error x => .error x
 | .ok (c, q) => .ok (cond0 4 [c], q)
def notR (deep : Int) (one : Nat → Res Cd) (p : Nat) : Res Cd :=
 if isP T e [wNot] p then wrapNot (if deep < 30 then one (p + 1) else .error (2, (nxt T e p).f1))
 else if (nxt T e p).f0 = 3 then (if deep < 30 then closeP T e (orP T e one (p + 1)) else .error (2, (nxt T e p).f1))
 else atomP T e p
def notN : Nat → Nat → Res Cd
 | 0, p => if isP T e [wNot] p then .error (2, (nxt T e p).f1) else if (nxt T e p).f0 = 3 then .error (2, (nxt T e p).f1) else atomP T e p
 | n + 1, p => if isP T e [wNot] p then wrapNot (notN n (p + 1)) else if (nxt T e p).f0 = 3 then closeP T e (orP T e (notN n) (p + 1)) else atomP T e p
end
end Go.Proofs.YtdlahgamdigkhaaDoor.Ps
namespace Go.Proofs.YtdlahgamdigkhaaDoor.Ps
open Go.RowKit Go.Proofs.YtdlahgamdigkhaaDoor.Pr
abbrev Sh := S47
abbrev Rl := S41
def wCsp : ByteArray := ⟨#[99, 115, 112]⟩
def wShare : ByteArray := ⟨#[115, 104, 97, 114, 101]⟩
def wMixed : ByteArray := ⟨#[109, 105, 120, 101, 100]⟩
def wDefault : ByteArray := ⟨#[100, 101, 102, 97, 117, 108, 116]⟩
def wAllow : ByteArray := ⟨#[97, 108, 108, 111, 119]⟩
def wDeny : ByteArray := ⟨#[100, 101, 110, 121]⟩
def wBlock : ByteArray := ⟨#[98, 108, 111, 99, 107]⟩
def wUpgrade : ByteArray := ⟨#[117, 112, 103, 114, 97, 100, 101]⟩
def wIf : ByteArray := ⟨#[105, 102]⟩
structure Pst where
 csp : List ByteArray
 shares : List Sh
 mixed : ByteArray
 rules : List Rl
 allow : Bool
 items : Nat
 metM : Nat
 metD : Nat
def pst0 : Pst := ⟨[], [], wBlock, [], false, 0, 0, 0⟩
section
variable (T : List Tk) (e : Int)
def shareL : Nat → Sh → Nat → Res Sh
 | 0, s, p => .ok (s, p)
 | f + 1, s, p => if isP T e [wMethod, wHeader, wCreds] p then (match takeP T e 1 p with
  | .error x => .error x
  | .ok (w, q) => if w = wMethod then (match takeP T e 1 q with
    | .error x => .error x
    | .ok (t, r) => shareL f ⟨s.f0, s.f1 ++ [t], s.f2, s.f3⟩ r)
   else if w = wHeader then (match takeP T e 1 q with
    | .error x => .error x
    | .ok (t, r) => shareL f ⟨s.f0, s.f1, s.f2 ++ [t], s.f3⟩ r)
   else shareL f ⟨s.f0, s.f1, s.f2, true⟩ q) else .ok (s, p)
def shareP (p : Nat) : Res Sh :=
 match takeP T e 2 p with
 | .error x => .error x
 | .ok (o, q) => shareL T e (T.length + 1 - q) ⟨o, [], [], false⟩ q
def itemK (s : Pst) (w : ByteArray) (q : Nat) : Res Pst :=
 if w = wCsp then (match takeP T e 2 q with
  | .error x => .error x
  | .ok (t, r) => .ok ({ s with csp := s.csp ++ [t] }, r))
 else if w = wShare then (match shareP T e q with
  | .error x => .error x
  | .ok (h, r) => .ok ({ s with shares := s.shares ++ [h] }, r))
 else if w = wMixed then (match wordP T e [wBlock, wUpgrade, wAllow] q with
  | .error x => .error x
  | .ok (t, r) => .ok ({ s with mixed := t }, r))
 else if w = wDefault then (match wordP T e [wAllow, wDeny] q with
  | .error x => .error x
  | .ok (t, r) => .ok ({ s with allow := decide (t = wAllow) }, r))
 else match wordP T e [wIf] q with
  | .error x => .error x
  | .ok (_, r) => match orP T e (notN T e 30) r with
   | .error x => .error x
   | .ok (c, r2) => .ok ({ s with rules := s.rules ++ [⟨decide (w = wAllow), c⟩] }, r2)
def onceP (s : Pst) (p : Nat) : Except (Int × Int) Pst :=
 if isP T e [wMixed, wDefault] p then
  (if (nxt T e p).f2 = wMixed then (if s.metM + 1 > 1 then .error (10, (nxt T e p).f1) else .ok { s with metM := s.metM + 1 })
   else if s.metD + 1 > 1 then .error (10, (nxt T e p).f1) else .ok { s with metD := s.metD + 1 })
 else .ok s
def itemP (s : Pst) (p : Nat) : Res Pst :=
 if isP T e [wCsp, wShare, wMixed, wDefault, wAllow, wDeny] p then (match onceP T e s p with
  | .error x => .error x
  | .ok s1 => if s1.items + 1 > 60 then .error (2, (nxt T e p).f1) else (match takeP T e 1 p with
   | .error x => .error x
   | .ok (w, q) => itemK T e { s1 with items := s1.items + 1 } w q)) else .error (8, (nxt T e p).f1)
def itemsP : Nat → Pst → Nat → Except (Int × Int) Pst
 | 0, s, p => .ok s
 | f + 1, s, p => if p < T.length then (match itemP T e s p with
  | .error x => .error x
  | .ok (s1, q) => match takeP T e 5 q with
   | .error x => .error x
   | .ok (_, r) => itemsP f s1 r) else .ok s
def polP : Except (Int × Int) Pst := itemsP T e (T.length + 1) pst0 0
end
end Go.Proofs.YtdlahgamdigkhaaDoor.Ps
namespace Go.Proofs.YtdlahgamdigkhaaDoor.Sn
open Go.RowKit Go.Proofs.YtdlahgamdigkhaaDoor.Pr Go.Proofs.YtdlahgamdigkhaaDoor.Ps
abbrev At := S33
instance : DecidableEq At := fun a b => if h : a.f0 = b.f0 ∧ a.f1 = b.f1 then .isTrue (by cases a; cases b; simp only at h; rw [h.1, h.2]) else .isFalse (fun he => h (by rw [he]; exact ⟨rfl, rfl⟩))
def bareW : List ByteArray := [wSame, wTrusted, wCreds, wCors]
def textW : List ByteArray := [wMethod, wDest, wScheme, wHeader, wHost, wPath]
def atomB (a : At) : Bool := if memB a.f0 bareW then decide (a.f1 = ⟨#[]⟩) else memB a.f0 textW
def noAtom (a : At) : Bool := decide (a.f0 = ⟨#[]⟩) && decide (a.f1 = ⟨#[]⟩)
mutual
/-- Is a condition a tree? -/
def treeB : S39 → Bool
 | ⟨k, a, l⟩ => (decide (k = 3) || noAtom a) && (if k = 1 ∨ k = 2 then l.isEmpty else if k = 3 then l.isEmpty && atomB a else if k = 4 then decide (l.length = 1) && everyB l else if k = 5 ∨ k = 6 then decide (2 ≤ l.length) && everyB l else false)
def everyB : List (S39) → Bool
 | [] => true
 | c :: l => treeB c && everyB l
end
theorem treeB_eq (c : Cd) : treeB c = ((decide (c.f0 = 3) || noAtom c.f1) && (if c.f0 = 1 ∨ c.f0 = 2 then c.f2.isEmpty else if c.f0 = 3 then c.f2.isEmpty && atomB c.f1 else if c.f0 = 4 then decide (c.f2.length = 1) && everyB c.f2 else if c.f0 = 5 ∨ c.f0 = 6 then decide (2 ≤ c.f2.length) && everyB c.f2 else false)) := by
 cases c; rw [treeB]
theorem everyB_all : ∀ l : List Cd, everyB l = l.all treeB
 | [] => by rw [everyB]; rfl
 | c :: l => by rw [everyB, everyB_all l]; rfl
mutual
/-- How deep a condition is. -/
def dpC : S39 → Nat
 | ⟨_, _, l⟩ => 1 + dpL l
def dpL : List (S39) → Nat
 | [] => 0
 | c :: l => max (dpC c) (dpL l)
end
theorem dpC_eq (c : Cd) : dpC c = 1 + dpL c.f2 := by cases c; rw [dpC]
theorem dpL_le {n : Nat} : ∀ {l : List Cd}, (∀ c ∈ l, dpC c ≤ n) → dpL l ≤ n
 | [], _ => by rw [dpL]; exact Nat.zero_le _
 | c :: l, h => by
  have h1 := h c (List.mem_cons_self ..)
  have h2 := dpL_le (fun d hd => h d (List.mem_cons_of_mem _ hd))
  rw [dpL]; omega
def condB (c : Cd) : Bool := treeB c && decide (dpC c ≤ 70)
mutual
/-- The atoms of a condition, as they stand. -/
def atomsC : S39 → List (S33)
 | ⟨k, a, l⟩ => (if k = 3 then [a] else []) ++ atomsL l
def atomsL : List (S39) → List (S33)
 | [] => []
 | c :: l => atomsC c ++ atomsL l
end
theorem atomsC_eq (c : Cd) : atomsC c = (if c.f0 = 3 then [c.f1] else []) ++ atomsL c.f2 := by cases c; rw [atomsC]
theorem atomsL_app : ∀ a b : List Cd, atomsL (a ++ b) = atomsL a ++ atomsL b
 | [], b => by rw [List.nil_append, atomsL, List.nil_append]
 | c :: a, b => by rw [List.cons_append, atomsL, atomsL, atomsL_app a b, List.append_assoc]
def addA (L : List At) (a : At) : List At := if a ∈ L then L else L ++ [a]
def atomsP (rules : List Rl) : List At := (atomsL (rules.map (·.f1))).foldl addA []
end Go.Proofs.YtdlahgamdigkhaaDoor.Sn
namespace Go.Proofs.YtdlahgamdigkhaaDoor.Pr
open Go.RowKit Go.Proofs.YtdlahgamdigkhaaDoorW.PrintWords Go.Proofs.YtdlahgamdigkhaaDoorW.PrintLast Go.Proofs.YtdlahgamdigkhaaDoorW.PrintMore
attribute [local go_sem] max2_int min2_int max_two min_two max_three min_three max_four min_four
def csp_ASCII.l0 : Nat → ByteArray → Int → Int → Option (Bool)
 | 0, _, _, _ => none
 | k + 1, x0, x5, x6 => if x6 < x5 then (if 0 ≤ x6 then (if x6 < (x0.size : Int) then (if (bt x0 x6) ≥ 128 then (some false) else (csp_ASCII.l0 k x0 x5 (wrap64 (x6 + 1)))) else (none)) else (none)) else (some true)
def csp_ASCII.f (k : Nat) (a0 : ByteArray) : Option (Bool) := csp_ASCII.l0 k a0 (a0.size : Int) 0
set_option maxHeartbeats 8000000 in
set_option maxRecDepth 100000 in
theorem csp_ASCII.calls (k : Nat) (a0 : ByteArray) (r : Bool) (w : World) (h : csp_ASCII.f k a0 = some r) :
  Calls Tryd.prog 21 #[.string a0] w fun e w' => e = .returned (.bool r) ∧ Drawn0 w w' := by
 have H : (csp_ASCII.l0 k a0 (a0.size : Int) 0) = some r := h
 clear h
 have H' := Aside0.mk H
 clear H
 go_enter Tryd.func21, Tryd.ntmps21
 go_wp2
 go_loopg [6] k (fun kq v6 w' => ∃ (x6_1 : Int), v6 = .int .i64 x6_1 ∧ Aside0 (csp_ASCII.l0 kq a0 (a0.size : Int) x6_1 = some r) ∧ Aside0 (kq ≤ k) ∧ Drawn0 w w')
 case atStart => exact ⟨(0), (by first | rfl | (simp; done) | (simp [*]; done)), H', ⟨Nat.le_refl _⟩, by repeat (first | exact Drawn0.refl _ | apply Drawn0.step)⟩
 case round =>
  clear H'
  obtain ⟨x6_1, rfl, HA, HK1, ⟨m1, rfl⟩⟩ := hrel
  cases gk with
  | zero => exact absurd HA.out (by simp [csp_ASCII.l0])
  | succ k1 =>
   have H := HA.out
   clear HA
   simp only [csp_ASCII.l0] at H
   by_cases c2 : x6_1 < (a0.size : Int)
   ·rw [if_pos c2] at H
    have c2b0 : decide (x6_1 < (a0.size : Int)) = true := decide_eq_true c2
    clear c2
    by_cases c3 : 0 ≤ x6_1
    ·rw [if_pos c3] at H
     have c3b0 : decide (0 ≤ x6_1) = true := decide_eq_true c3
     clear c3
     by_cases c4 : x6_1 < (a0.size : Int)
     ·rw [if_pos c4] at H
      have c4b0 : decide (x6_1 < (a0.size : Int)) = true := decide_eq_true c4
      clear c4
      by_cases c6 : (bt a0 x6_1) ≥ 128
      ·rw [if_pos c6] at H
       have c6b0 : decide (128 ≤ (bt a0 x6_1)) = true := decide_eq_true c6
       clear c6
       obtain rfl := Option.some.inj H
       have p5 : 0 ≤ (x6_1 : Int) := of_decide_eq_true (by first | (with_reducible assumption) | assumption)
       have q5 : x6_1 < (a0.size : Int) := of_decide_eq_true (by first | (with_reducible assumption) | assumption)
       have hx5 := bt_at a0 x6_1
       replace p5 := eq_true p5
       replace q5 := eq_true q5
       go_wp2
       go_ret
       exact sAt2_0
      ·rw [if_neg c6] at H
       have c6b0 : decide (128 ≤ (bt a0 x6_1)) = false := decide_eq_false c6
       clear c6
       have H' := Aside0.mk H
       clear H
       have p5 : 0 ≤ (x6_1 : Int) := of_decide_eq_true (by first | (with_reducible assumption) | assumption)
       have q5 : x6_1 < (a0.size : Int) := of_decide_eq_true (by first | (with_reducible assumption) | assumption)
       have hx5 := bt_at a0 x6_1
       replace p5 := eq_true p5
       replace q5 := eq_true q5
       go_wp2
       go_roundg k1
       case measure => have := HK1.out; omega
       case rel => exact ⟨(wrap64 (x6_1 + 1)), (by first | rfl | (simp; done) | (simp [*]; done)), H', ⟨by have := HK1.out; omega⟩, by repeat (first | exact Drawn0.refl _ | apply Drawn0.step)⟩
     ·rw [if_neg c4] at H
      exact absurd H (by simp)
    ·rw [if_neg c3] at H
     exact absurd H (by simp)
   ·rw [if_neg c2] at H
    have c2b0 : decide (x6_1 < (a0.size : Int)) = false := decide_eq_false c2
    clear c2
    obtain rfl := Option.some.inj H
    go_wp2
    go_ret
    exact sAt2_0
def slices_Index_string_string.l0 : Nat → List ByteArray → ByteArray → Int → Int → Option (Int)
 | 0, _, _, _, _ => none
 | k + 1, x0, x1, x7, x8 => if x8 < x7 then (if 0 ≤ x8 then (if x8 < (x0.length : Int) then (if x1.toList = (rdOf ByteArray.empty x0 x8).toList then (some x8) else (slices_Index_string_string.l0 k x0 x1 x7 (wrap64 (x8 + 1)))) else (none)) else (none)) else (some (-1))
def slices_Index_string_string.f (k : Nat) (l0 : List ByteArray) (a1 : ByteArray) : Option (Int) := slices_Index_string_string.l0 k l0 a1 (l0.length : Int) 0
set_option maxHeartbeats 8000000 in
set_option maxRecDepth 100000 in
theorem slices_Index_string_string.calls (k : Nat) (A0 : Option Addr) (c0 : Nat) (l0 : List ByteArray) (a1 : ByteArray) (r : Int) (w : World) (hr0 : Kd.C Kd.string w A0 l0.length l0) (hc0 : l0.length ≤ c0) (h : slices_Index_string_string.f k l0 a1 = some r) :
  Calls Tryd.prog 45 #[.slice A0 l0.length c0, .string a1] w fun e w' => e = .returned (.int .i64 r) ∧ Drawn0 w w' := by
 have HR0 := Aside0.mk hr0
 have HC0 := Aside0.mk hc0
 clear hr0 hc0
 have H : (slices_Index_string_string.l0 k l0 a1 (l0.length : Int) 0) = some r := h
 clear h
 have H' := Aside0.mk H
 clear H
 go_enter Tryd.func45, Tryd.ntmps45
 go_wp2
 go_loopg [8] k (fun kq v8 w' => ∃ (x8_1 : Int), v8 = .int .i64 x8_1 ∧ Aside0 (slices_Index_string_string.l0 kq l0 a1 (l0.length : Int) x8_1 = some r) ∧ Aside0 (kq ≤ k) ∧ Drawn0 w w')
 case atStart => exact ⟨(0), (by first | rfl | (simp; done) | (simp [*]; done)), H', ⟨Nat.le_refl _⟩, by repeat (first | exact Drawn0.refl _ | apply Drawn0.step)⟩
 case round =>
  clear H'
  try clear p2
  obtain ⟨x8_1, rfl, HA, HK1, ⟨m1, rfl⟩⟩ := hrel
  cases gk with
  | zero => exact absurd HA.out (by simp [slices_Index_string_string.l0])
  | succ k1 =>
   have H := HA.out
   clear HA
   simp only [slices_Index_string_string.l0] at H
   by_cases c3 : x8_1 < (l0.length : Int)
   ·rw [if_pos c3] at H
    have c3b0 : decide (x8_1 < (l0.length : Int)) = true := decide_eq_true c3
    clear c3
    by_cases c4 : 0 ≤ x8_1
    ·rw [if_pos c4] at H
     have c4b0 : decide (0 ≤ x8_1) = true := decide_eq_true c4
     clear c4
     by_cases c5 : x8_1 < (l0.length : Int)
     ·rw [if_pos c5] at H
      have c5b0 : decide (x8_1 < (l0.length : Int)) = true := decide_eq_true c5
      clear c5
      by_cases c6 : a1.toList = (rdOf ByteArray.empty l0 x8_1).toList
      ·rw [if_pos c6] at H
       have c6b0 : (a1.toList == (rdOf ByteArray.empty l0 x8_1).toList) = true := beq_iff_eq.mpr c6
       have c6b1 : (a1.toList != (rdOf ByteArray.empty l0 x8_1).toList) = false := bne_eq_false_iff_eq.mpr c6
       clear c6
       obtain rfl := Option.some.inj H
       have p189 : 0 ≤ (x8_1 : Int) := of_decide_eq_true (by first | (with_reducible assumption) | assumption)
       have q189 : x8_1 < (l0.length : Int) := of_decide_eq_true (by first | (with_reducible assumption) | assumption)
       obtain ⟨ad189, e189, hx189_0⟩ := Kd.at_string HR0.out x8_1 p189 q189
       cases e189
       replace p189 := eq_true p189
       replace q189 := eq_true q189
       go_wp2
       go_ret
       exact sAt2_0
      ·rw [if_neg c6] at H
       have c6b0 : (a1.toList == (rdOf ByteArray.empty l0 x8_1).toList) = false := beq_eq_false_iff_ne.mpr c6
       have c6b1 : (a1.toList != (rdOf ByteArray.empty l0 x8_1).toList) = true := bne_iff_ne.mpr c6
       have H' := Aside0.mk H
       clear H
       have p189 : 0 ≤ (x8_1 : Int) := of_decide_eq_true (by first | (with_reducible assumption) | assumption)
       have q189 : x8_1 < (l0.length : Int) := of_decide_eq_true (by first | (with_reducible assumption) | assumption)
       obtain ⟨ad189, e189, hx189_0⟩ := Kd.at_string HR0.out x8_1 p189 q189
       cases e189
       replace p189 := eq_true p189
       replace q189 := eq_true q189
       go_wp2
       go_roundg k1
       case measure => have := HK1.out; omega
       case rel => exact ⟨(wrap64 (x8_1 + 1)), (by first | rfl | (simp; done) | (simp [*]; done)), H', ⟨by have := HK1.out; omega⟩, by repeat (first | exact Drawn0.refl _ | apply Drawn0.step)⟩
     ·rw [if_neg c5] at H
      exact absurd H (by simp)
    ·rw [if_neg c4] at H
     exact absurd H (by simp)
   ·rw [if_neg c3] at H
    have c3b0 : decide (x8_1 < (l0.length : Int)) = false := decide_eq_false c3
    clear c3
    obtain rfl := Option.some.inj H
    go_wp2
    go_ret
    exact sAt2_0
def slices_Contains_string_string.f (k : Nat) (l0 : List ByteArray) (a1 : ByteArray) : Option (Bool) := (slices_Index_string_string.f k l0 a1).bind fun t190 => (some (decide (t190 ≥ 0)))
set_option maxHeartbeats 8000000 in
set_option maxRecDepth 100000 in
theorem slices_Contains_string_string.calls (k : Nat) (A0 : Option Addr) (c0 : Nat) (l0 : List ByteArray) (a1 : ByteArray) (r : Bool) (w : World) (hr0 : Kd.C Kd.string w A0 l0.length l0) (hc0 : l0.length ≤ c0) (h : slices_Contains_string_string.f k l0 a1 = some r) :
  Calls Tryd.prog 34 #[.slice A0 l0.length c0, .string a1] w fun e w' => e = .returned (.bool r) ∧ Drawn0 w w' := by
 have HR0 := Aside0.mk hr0
 have HC0 := Aside0.mk hc0
 clear hr0 hc0
 have H : ((slices_Index_string_string.f k l0 a1).bind fun t190 => (some (decide (t190 ≥ 0)))) = some r := h
 clear h
 replace H := Option.bind_eq_some_iff.mp H
 obtain ⟨t190, A30, H⟩ := H
 replace H : (some (decide (t190 ≥ 0))) = some r := H
 have A3 := Aside0.mk A30
 clear A30
 obtain rfl := Option.some.inj H
 go_enter Tryd.func34, Tryd.ntmps34
 go_wp2_with (first | ((with_reducible refine gate_callee (f := 45) rfl ?_); refine goesL_ (some 7) rfl rfl Tryd.func45 (by kernel_rfl) rfl #[.slice A0 l0.length c0, .string a1] rfl (by (try simp only [List.map_toArray, List.map_cons, List.map_nil]); first | done | rfl | (simp only [List.length_drop, List.length_take]; rfl)) ?_; (with_reducible refine (slices_Index_string_string.calls k _ _ l0 a1 t190 _ ?side1 ?side2 A3.out).mono ?_); (case side1 => repeat (first | exact HR0.out | (with_reducible refine Kd.C_alloc ?_ _) | (with_reducible refine Kd.C_drewN ?_ _) | (with_reducible refine Kd.C_drew ?_))); (case side2 => exact HC0.out); rintro e w' ⟨rfl, ⟨nd, rfl⟩⟩; refine ⟨_, rfl, ?_⟩))
 go_ret
 exact sAt2_0
def ascii_Any.f (k : Nat) (a0 : ByteArray) (l1 : List ByteArray) : Option (Bool) := (slices_Contains_string_string.f k l1 a0).bind fun t191 => (some t191)
set_option maxHeartbeats 8000000 in
set_option maxRecDepth 100000 in
theorem ascii_Any.calls (k : Nat) (a0 : ByteArray) (A1 : Option Addr) (c1 : Nat) (l1 : List ByteArray) (r : Bool) (w : World) (hr1 : Kd.C Kd.string w A1 l1.length l1) (hc1 : l1.length ≤ c1) (h : ascii_Any.f k a0 l1 = some r) :
  Calls Tryd.prog 20 #[.string a0, .slice A1 l1.length c1] w fun e w' => e = .returned (.bool r) ∧ Drawn0 w w' := by
 have HR1 := Aside0.mk hr1
 have HC1 := Aside0.mk hc1
 clear hr1 hc1
 have H : ((slices_Contains_string_string.f k l1 a0).bind fun t191 => (some t191)) = some r := h
 clear h
 replace H := Option.bind_eq_some_iff.mp H
 obtain ⟨t191, A30, H⟩ := H
 replace H : (some t191) = some r := H
 have A3 := Aside0.mk A30
 clear A30
 obtain rfl := Option.some.inj H
 go_enter Tryd.func20, Tryd.ntmps20
 go_wp2_with (first | ((with_reducible refine gate_callee (f := 34) rfl ?_); refine goesL_ (some 7) rfl rfl Tryd.func34 (by kernel_rfl) rfl #[.slice A1 l1.length c1, .string a0] rfl (by (try simp only [List.map_toArray, List.map_cons, List.map_nil]); first | done | rfl | (simp only [List.length_drop, List.length_take]; rfl)) ?_; (with_reducible refine (slices_Contains_string_string.calls k _ _ l1 a0 t191 _ ?side1 ?side2 A3.out).mono ?_); (case side1 => repeat (first | exact HR1.out | (with_reducible refine Kd.C_alloc ?_ _) | (with_reducible refine Kd.C_drewN ?_ _) | (with_reducible refine Kd.C_drew ?_))); (case side2 => exact HC1.out); rintro e w' ⟨rfl, ⟨nd, rfl⟩⟩; refine ⟨_, rfl, ?_⟩))
 go_ret
 exact sAt2_0
def sound_atom.j0 : Nat → ByteArray → Bool → ByteArray → ByteArray → Option (Bool)
 | 0, _, _, _, _ => none
 | k + 1, x4, x5, x193000, x193001 => if x5 = true then (some (x193001.toList == ([] : List UInt8))) else (if x4.toList = ([109, 101, 116, 104, 111, 100] : List UInt8) then (some true) else (if x4.toList = ([100, 101, 115, 116] : List UInt8) then (some true) else (if x4.toList = ([115, 99, 104, 101, 109, 101] : List UInt8) then (some true) else (if x4.toList = ([104, 101, 97, 100, 101, 114] : List UInt8) then (some true) else (if x4.toList = ([104, 111, 115, 116] : List UInt8) then (some true) else (if x4.toList = ([112, 97, 116, 104] : List UInt8) then (some true) else (some false)))))))
def sound_atom.f (k : Nat) (a0_0 : ByteArray) (a0_1 : ByteArray) : Option (Bool) := if a0_0.toList = ([115, 97, 109, 101, 45, 111, 114, 105, 103, 105, 110] : List UInt8) then (sound_atom.j0 k a0_0 (a0_0.toList == ([115, 97, 109, 101, 45, 111, 114, 105, 103, 105, 110] : List UInt8)) a0_0 a0_1) else (if a0_0.toList = ([116, 114, 117, 115, 116, 101, 100] : List UInt8) then (sound_atom.j0 k a0_0 (a0_0.toList == ([116, 114, 117, 115, 116, 101, 100] : List UInt8)) a0_0 a0_1) else (if a0_0.toList = ([99, 114, 101, 100, 115] : List UInt8) then (sound_atom.j0 k a0_0 (a0_0.toList == ([99, 114, 101, 100, 115] : List UInt8)) a0_0 a0_1) else (sound_atom.j0 k a0_0 (a0_0.toList == ([99, 111, 114, 115] : List UInt8)) a0_0 a0_1)))
set_option maxHeartbeats 8000000 in
set_option maxRecDepth 100000 in
theorem sound_atom.calls (k : Nat) (a0_0 : ByteArray) (a0_1 : ByteArray) (r : Bool) (w : World) (h : sound_atom.f k a0_0 a0_1 = some r) :
  Calls Tryd.prog 32 #[.agg #[.string a0_0, .string a0_1]] w fun e w' => e = .returned (.bool r) ∧ Below w.heap.size w w' := by
 have hu33 := Tryd.underlying33
 have HB := Aside0.mk (Below.refl w.heap.size w)
 have H : (if a0_0.toList = ([115, 97, 109, 101, 45, 111, 114, 105, 103, 105, 110] : List UInt8) then (sound_atom.j0 k a0_0 (a0_0.toList == ([115, 97, 109, 101, 45, 111, 114, 105, 103, 105, 110] : List UInt8)) a0_0 a0_1) else (if a0_0.toList = ([116, 114, 117, 115, 116, 101, 100] : List UInt8) then (sound_atom.j0 k a0_0 (a0_0.toList == ([116, 114, 117, 115, 116, 101, 100] : List UInt8)) a0_0 a0_1) else (if a0_0.toList = ([99, 114, 101, 100, 115] : List UInt8) then (sound_atom.j0 k a0_0 (a0_0.toList == ([99, 114, 101, 100, 115] : List UInt8)) a0_0 a0_1) else (sound_atom.j0 k a0_0 (a0_0.toList == ([99, 111, 114, 115] : List UInt8)) a0_0 a0_1)))) = some r := h
 clear h
 have HC2 := Aside0.mk H
 clear H
 go_enter Tryd.func32, Tryd.ntmps32
 go_upto_if 5 with (first | ((with_reducible refine gate_dst (N := 1) rfl ?_); refine box_event ?hg (N := 1) ?hd (cs := #[.string a0_0, .string a0_1]) (t := 33) ?hr ?_; (case hd => rfl); (case hg => rfl); (case hr => first | (go_simp; done) | (go_simp; rfl)); intro gb192 hg w3 hbox hb; have n0_ := Aside0.mk (below_step (by repeat (first | (with_reducible first | exact HB.out | apply below_alloc | apply pw_below_drewN | apply below_drew1) | exact HB.out)) hb); have n1_ := Aside0.mk (hbox); have n2_ := Aside0.mk ((by rw [hg]; exact (below_size (by repeat (first | (with_reducible first | exact HB.out | apply below_alloc | apply pw_below_drewN | apply below_drew1) | exact HB.out))) : w.heap.size ≤ gb192)); have n3_ := Aside0.mk ((by rw [hg]; exact (below_size (by repeat (first | (with_reducible first | exact HB.out | apply below_alloc | apply pw_below_drewN | apply below_drew1) | exact HB.out))) : w.heap.size ≤ gb192)); clear HB; have HB := n0_; have BK192 := n1_; have GW192 := n2_; have GE192 := n3_; clear n0_ n1_ n2_ n3_; clear hb hbox hg; have hcz4_0 : w3.cell? ⟨gb192, 0, none⟩ = some (.string a0_0) := (blk_cell BK192.out 0).trans rfl; have hcz4_1 : w3.cell? ⟨gb192, 1, none⟩ = some (.string a0_1) := (blk_cell BK192.out 1).trans rfl; have hfz4_0 := blk_frozen BK192.out 0; have hfz4_1 := blk_frozen BK192.out 1))
 (try simp only [Act.put, List.setIfInBounds_toArray, List.set_cons_zero, List.set_cons_succ])
 go_cut [5] (fun v5 wc => ∃ (kq : Nat) (x5_1 : Bool), v5 = .bool x5_1 ∧ Aside0 (sound_atom.j0 kq a0_0 x5_1 a0_0 a0_1 = some r) ∧ Aside0 (kq ≤ k) ∧ Aside0 (wc.heap[gb192]? = some (.cells #[.string a0_0, .string a0_1] 33 (0, 0))) ∧ Aside0 (Below w.heap.size w wc))
 case first =>
  have H := HC2.out
  clear HC2
  by_cases c5 : a0_0.toList = ([115, 97, 109, 101, 45, 111, 114, 105, 103, 105, 110] : List UInt8)
  ·rw [if_pos c5] at H
   have c5b0 : (a0_0.toList == ([115, 97, 109, 101, 45, 111, 114, 105, 103, 105, 110] : List UInt8)) = true := beq_iff_eq.mpr c5
   have c5b1 : (a0_0.toList != ([115, 97, 109, 101, 45, 111, 114, 105, 103, 105, 110] : List UInt8)) = false := bne_eq_false_iff_eq.mpr c5
   clear c5
   (first | rw [c5b0] | (simp only [i64_w, i32_w]; rw [c5b0]) | skip)
   have H' := Aside0.mk H
   clear H
   go_wp2
   go_meet
   case rel => exact ⟨_, ((a0_0.toList == ([115, 97, 109, 101, 45, 111, 114, 105, 103, 105, 110] : List UInt8))), (by first | rfl | (simp; done) | (simp [*]; done)), H', ⟨by first | omega | exact Nat.le_refl _⟩, ⟨by (with_reducible repeat (first | refine blk_drewN ?_ _ | refine blk_drew ?_ | refine blk_alloc ?_ _)); exact BK192.out⟩, ⟨by repeat (first | (with_reducible first | exact HB.out | apply below_alloc | apply pw_below_drewN | apply below_drew1 | refine below_set ?_ GE192.out) | exact HB.out)⟩⟩
  ·rw [if_neg c5] at H
   have c5b0 : (a0_0.toList == ([115, 97, 109, 101, 45, 111, 114, 105, 103, 105, 110] : List UInt8)) = false := beq_eq_false_iff_ne.mpr c5
   have c5b1 : (a0_0.toList != ([115, 97, 109, 101, 45, 111, 114, 105, 103, 105, 110] : List UInt8)) = true := bne_iff_ne.mpr c5
   (first | rw [c5b0] | (simp only [i64_w, i32_w]; rw [c5b0]) | skip)
   by_cases c6 : a0_0.toList = ([116, 114, 117, 115, 116, 101, 100] : List UInt8)
   ·rw [if_pos c6] at H
    have c6b0 : (a0_0.toList == ([116, 114, 117, 115, 116, 101, 100] : List UInt8)) = true := beq_iff_eq.mpr c6
    have c6b1 : (a0_0.toList != ([116, 114, 117, 115, 116, 101, 100] : List UInt8)) = false := bne_eq_false_iff_eq.mpr c6
    clear c6
    have H' := Aside0.mk H
    clear H
    go_wp2
    go_meet
    case rel => exact ⟨_, ((a0_0.toList == ([116, 114, 117, 115, 116, 101, 100] : List UInt8))), (by first | rfl | (simp; done) | (simp [*]; done)), H', ⟨by first | omega | exact Nat.le_refl _⟩, ⟨by (with_reducible repeat (first | refine blk_drewN ?_ _ | refine blk_drew ?_ | refine blk_alloc ?_ _)); exact BK192.out⟩, ⟨by repeat (first | (with_reducible first | exact HB.out | apply below_alloc | apply pw_below_drewN | apply below_drew1 | refine below_set ?_ GE192.out) | exact HB.out)⟩⟩
   ·rw [if_neg c6] at H
    have c6b0 : (a0_0.toList == ([116, 114, 117, 115, 116, 101, 100] : List UInt8)) = false := beq_eq_false_iff_ne.mpr c6
    have c6b1 : (a0_0.toList != ([116, 114, 117, 115, 116, 101, 100] : List UInt8)) = true := bne_iff_ne.mpr c6
    by_cases c7 : a0_0.toList = ([99, 114, 101, 100, 115] : List UInt8)
    ·rw [if_pos c7] at H
     have c7b0 : (a0_0.toList == ([99, 114, 101, 100, 115] : List UInt8)) = true := beq_iff_eq.mpr c7
     have c7b1 : (a0_0.toList != ([99, 114, 101, 100, 115] : List UInt8)) = false := bne_eq_false_iff_eq.mpr c7
     clear c7
     have H' := Aside0.mk H
     clear H
     go_wp2
     go_meet
     case rel => exact ⟨_, ((a0_0.toList == ([99, 114, 101, 100, 115] : List UInt8))), (by first | rfl | (simp; done) | (simp [*]; done)), H', ⟨by first | omega | exact Nat.le_refl _⟩, ⟨by (with_reducible repeat (first | refine blk_drewN ?_ _ | refine blk_drew ?_ | refine blk_alloc ?_ _)); exact BK192.out⟩, ⟨by repeat (first | (with_reducible first | exact HB.out | apply below_alloc | apply pw_below_drewN | apply below_drew1 | refine below_set ?_ GE192.out) | exact HB.out)⟩⟩
    ·rw [if_neg c7] at H
     have c7b0 : (a0_0.toList == ([99, 114, 101, 100, 115] : List UInt8)) = false := beq_eq_false_iff_ne.mpr c7
     have c7b1 : (a0_0.toList != ([99, 114, 101, 100, 115] : List UInt8)) = true := bne_iff_ne.mpr c7
     have H' := Aside0.mk H
     clear H
     go_wp2
     go_meet
     case rel => exact ⟨_, ((a0_0.toList == ([99, 111, 114, 115] : List UInt8))), (by first | rfl | (simp; done) | (simp [*]; done)), H', ⟨by first | omega | exact Nat.le_refl _⟩, ⟨by (with_reducible repeat (first | refine blk_drewN ?_ _ | refine blk_drew ?_ | refine blk_alloc ?_ _)); exact BK192.out⟩, ⟨by repeat (first | (with_reducible first | exact HB.out | apply below_alloc | apply pw_below_drewN | apply below_drew1 | refine below_set ?_ GE192.out) | exact HB.out)⟩⟩
 case rest =>
  clear HC2
  try clear p2
  try clear c3
  try clear c5
  try clear c5b0
  try clear c5b1
  try clear c6
  try clear c6b0
  try clear c6b1
  try clear c7
  try clear c7b0
  try clear c7b1
  try clear hcz4_0
  try clear hcz4_1
  try clear hfz4_0
  try clear hfz4_1
  obtain ⟨kq, x5_1, rfl, HA, HJ1, BK192, HB⟩ := hcut
  cases kq with
  | zero => exact absurd HA.out (by simp [sound_atom.j0])
  | succ kj1 =>
   have H := HA.out
   clear HA
   simp only [sound_atom.j0] at H
   by_cases c8 : x5_1 = true
   ·subst c8
    have H1 : (some (a0_1.toList == ([] : List UInt8))) = some r := by rw [if_pos rfl] at H; exact H
    clear H
    have H := H1
    clear H1
    obtain rfl := Option.some.inj H
    have hcz9_0 : wc.cell? ⟨gb192, 0, none⟩ = some (.string a0_0) := (blk_cell BK192.out 0).trans rfl
    have hcz9_1 : wc.cell? ⟨gb192, 1, none⟩ = some (.string a0_1) := (blk_cell BK192.out 1).trans rfl
    have hfz9_0 := blk_frozen BK192.out 0
    have hfz9_1 := blk_frozen BK192.out 1
    go_wp2
    go_ret
    exact sAt2_1
   ·replace c8 := Bool.eq_false_iff.mpr c8
    subst c8
    have H1 : (if a0_0.toList = ([109, 101, 116, 104, 111, 100] : List UInt8) then (some true) else (if a0_0.toList = ([100, 101, 115, 116] : List UInt8) then (some true) else (if a0_0.toList = ([115, 99, 104, 101, 109, 101] : List UInt8) then (some true) else (if a0_0.toList = ([104, 101, 97, 100, 101, 114] : List UInt8) then (some true) else (if a0_0.toList = ([104, 111, 115, 116] : List UInt8) then (some true) else (if a0_0.toList = ([112, 97, 116, 104] : List UInt8) then (some true) else (some false))))))) = some r := by rw [if_neg (show ¬ (false = true) by decide)] at H; exact H
    clear H
    have H := H1
    clear H1
    by_cases c10 : a0_0.toList = ([109, 101, 116, 104, 111, 100] : List UInt8)
    ·rw [if_pos c10] at H
     have c10b0 : (a0_0.toList == ([109, 101, 116, 104, 111, 100] : List UInt8)) = true := beq_iff_eq.mpr c10
     have c10b1 : (a0_0.toList != ([109, 101, 116, 104, 111, 100] : List UInt8)) = false := bne_eq_false_iff_eq.mpr c10
     clear c10
     obtain rfl := Option.some.inj H
     go_wp2
     go_ret
     exact sAt2_1
    ·rw [if_neg c10] at H
     have c10b0 : (a0_0.toList == ([109, 101, 116, 104, 111, 100] : List UInt8)) = false := beq_eq_false_iff_ne.mpr c10
     have c10b1 : (a0_0.toList != ([109, 101, 116, 104, 111, 100] : List UInt8)) = true := bne_iff_ne.mpr c10
     by_cases c11 : a0_0.toList = ([100, 101, 115, 116] : List UInt8)
     ·rw [if_pos c11] at H
      have c11b0 : (a0_0.toList == ([100, 101, 115, 116] : List UInt8)) = true := beq_iff_eq.mpr c11
      have c11b1 : (a0_0.toList != ([100, 101, 115, 116] : List UInt8)) = false := bne_eq_false_iff_eq.mpr c11
      clear c11
      obtain rfl := Option.some.inj H
      go_wp2
      go_ret
      exact sAt2_1
     ·rw [if_neg c11] at H
      have c11b0 : (a0_0.toList == ([100, 101, 115, 116] : List UInt8)) = false := beq_eq_false_iff_ne.mpr c11
      have c11b1 : (a0_0.toList != ([100, 101, 115, 116] : List UInt8)) = true := bne_iff_ne.mpr c11
      by_cases c12 : a0_0.toList = ([115, 99, 104, 101, 109, 101] : List UInt8)
      ·rw [if_pos c12] at H
       have c12b0 : (a0_0.toList == ([115, 99, 104, 101, 109, 101] : List UInt8)) = true := beq_iff_eq.mpr c12
       have c12b1 : (a0_0.toList != ([115, 99, 104, 101, 109, 101] : List UInt8)) = false := bne_eq_false_iff_eq.mpr c12
       clear c12
       obtain rfl := Option.some.inj H
       go_wp2
       go_ret
       exact sAt2_1
      ·rw [if_neg c12] at H
       have c12b0 : (a0_0.toList == ([115, 99, 104, 101, 109, 101] : List UInt8)) = false := beq_eq_false_iff_ne.mpr c12
       have c12b1 : (a0_0.toList != ([115, 99, 104, 101, 109, 101] : List UInt8)) = true := bne_iff_ne.mpr c12
       by_cases c13 : a0_0.toList = ([104, 101, 97, 100, 101, 114] : List UInt8)
       ·rw [if_pos c13] at H
        have c13b0 : (a0_0.toList == ([104, 101, 97, 100, 101, 114] : List UInt8)) = true := beq_iff_eq.mpr c13
        have c13b1 : (a0_0.toList != ([104, 101, 97, 100, 101, 114] : List UInt8)) = false := bne_eq_false_iff_eq.mpr c13
        clear c13
        obtain rfl := Option.some.inj H
        go_wp2
        go_ret
        exact sAt2_1
       ·rw [if_neg c13] at H
        have c13b0 : (a0_0.toList == ([104, 101, 97, 100, 101, 114] : List UInt8)) = false := beq_eq_false_iff_ne.mpr c13
        have c13b1 : (a0_0.toList != ([104, 101, 97, 100, 101, 114] : List UInt8)) = true := bne_iff_ne.mpr c13
        by_cases c14 : a0_0.toList = ([104, 111, 115, 116] : List UInt8)
        ·rw [if_pos c14] at H
         have c14b0 : (a0_0.toList == ([104, 111, 115, 116] : List UInt8)) = true := beq_iff_eq.mpr c14
         have c14b1 : (a0_0.toList != ([104, 111, 115, 116] : List UInt8)) = false := bne_eq_false_iff_eq.mpr c14
         clear c14
         obtain rfl := Option.some.inj H
         go_wp2
         go_ret
         exact sAt2_1
        ·rw [if_neg c14] at H
         have c14b0 : (a0_0.toList == ([104, 111, 115, 116] : List UInt8)) = false := beq_eq_false_iff_ne.mpr c14
         have c14b1 : (a0_0.toList != ([104, 111, 115, 116] : List UInt8)) = true := bne_iff_ne.mpr c14
         by_cases c15 : a0_0.toList = ([112, 97, 116, 104] : List UInt8)
         ·rw [if_pos c15] at H
          have c15b0 : (a0_0.toList == ([112, 97, 116, 104] : List UInt8)) = true := beq_iff_eq.mpr c15
          have c15b1 : (a0_0.toList != ([112, 97, 116, 104] : List UInt8)) = false := bne_eq_false_iff_eq.mpr c15
          clear c15
          obtain rfl := Option.some.inj H
          go_wp2
          go_ret
          exact sAt2_1
         ·rw [if_neg c15] at H
          have c15b0 : (a0_0.toList == ([112, 97, 116, 104] : List UInt8)) = false := beq_eq_false_iff_ne.mpr c15
          have c15b1 : (a0_0.toList != ([112, 97, 116, 104] : List UInt8)) = true := bne_iff_ne.mpr c15
          obtain rfl := Option.some.inj H
          go_wp2
          go_ret
          exact sAt2_1
mutual
def parse_Depth.l0 : Nat → Int → List (S39) → Int → Int → Option (Int)
 | 0, _, _, _, _ => none
 | k + 1, x3, x7, x8, x9 => if x9 < x8 then (if 0 ≤ x9 then (if x9 < (x7.length : Int) then ((parse_Depth.f k ((rd_T39 x7 x9).f0) ((rd_T39 x7 x9).f1.f0) ((rd_T39 x7 x9).f1.f1) ((rd_T39 x7 x9).f2)).bind fun t196 => (parse_Depth.l0 k (mx x3 t196) x7 x8 (wrap64 (x9 + 1)))) else (none)) else (none)) else (some (wrap64 (x3 + 1)))
def parse_Depth.f : Nat → Int → ByteArray → ByteArray → List (S39) → Option (Int)
 | 0, _, _, _, _ => none
 | k + 1, a0_0, a0_1, a0_2, l0_3 => parse_Depth.l0 k 0 l0_3 (l0_3.length : Int) 0
end
set_option maxHeartbeats 8000000 in
set_option maxRecDepth 100000 in
theorem parse_Depth.calls (k : Nat) : ∀ (a0_0 : Int) (a0_1 : ByteArray) (a0_2 : ByteArray) (A0_3 : Option Addr) (c0_3 : Nat) (l0_3 : List (S39)) (r : Int) (w : World) (hr0_3 : Kd.C k39 w A0_3 l0_3.length l0_3) (hc0_3 : l0_3.length ≤ c0_3) (h : parse_Depth.f k a0_0 a0_1 a0_2 l0_3 = some r),
  Calls Tryd.prog 19 #[.agg #[.int .i64 a0_0, .string a0_1, .string a0_2, .slice A0_3 l0_3.length c0_3]] w fun e w' => e = .returned (.int .i64 r) ∧ Below w.heap.size w w' := by
 induction k using Nat.strongRecOn with
 | _ k ih =>
 intro a0_0 a0_1 a0_2 A0_3 c0_3 l0_3 r w hr0_3 hc0_3 h
 cases k with
 | zero => exact absurd h (by simp [parse_Depth.f])
 | succ k =>
 simp only [parse_Depth.f] at h
 have hu39 := Tryd.underlying39
 have HR0_3 := Aside0.mk hr0_3
 have HC0_3 := Aside0.mk hc0_3
 clear hr0_3 hc0_3
 have HB := Aside0.mk (Below.refl w.heap.size w)
 have H : (parse_Depth.l0 k 0 l0_3 (l0_3.length : Int) 0) = some r := h
 clear h
 have H' := Aside0.mk H
 clear H
 go_enter Tryd.func19, Tryd.ntmps19
 go_wp2_with (first | ((with_reducible refine gate_dst (N := 1) rfl ?_); refine box_event ?hg (N := 1) ?hd (cs := #[.int .i64 a0_0, .string a0_1, .string a0_2, .slice A0_3 l0_3.length c0_3]) (t := 39) ?hr ?_; (case hd => rfl); (case hg => rfl); (case hr => first | (go_simp; done) | (go_simp; rfl)); intro gb193 hg w2 hbox hb; have n0_ := Aside0.mk (below_step (by repeat (first | (with_reducible first | exact HB.out | apply below_alloc | apply pw_below_drewN | apply below_drew1) | exact HB.out)) hb); have n1_ := Aside0.mk (hbox); have n2_ := Aside0.mk ((by rw [hg]; exact (below_size (by repeat (first | (with_reducible first | exact HB.out | apply below_alloc | apply pw_below_drewN | apply below_drew1) | exact HB.out))) : w.heap.size ≤ gb193)); have n3_ := Aside0.mk ((by rw [hg]; exact (below_size (by repeat (first | (with_reducible first | exact HB.out | apply below_alloc | apply pw_below_drewN | apply below_drew1) | exact HB.out))) : w.heap.size ≤ gb193)); clear HB; have HB := n0_; have BK193 := n1_; have GW193 := n2_; have GE193 := n3_; clear n0_ n1_ n2_ n3_; clear hb hbox hg; have hcz3_0 : w2.cell? ⟨gb193, 0, none⟩ = some (.int .i64 a0_0) := (blk_cell BK193.out 0).trans rfl; have hcz3_1 : w2.cell? ⟨gb193, 1, none⟩ = some (.string a0_1) := (blk_cell BK193.out 1).trans rfl; have hcz3_2 : w2.cell? ⟨gb193, 2, none⟩ = some (.string a0_2) := (blk_cell BK193.out 2).trans rfl; have hcz3_3 : w2.cell? ⟨gb193, 3, none⟩ = some (.slice A0_3 l0_3.length c0_3) := (blk_cell BK193.out 3).trans rfl; have hfz3_0 := blk_frozen BK193.out 0; have hfz3_1 := blk_frozen BK193.out 1; have hfz3_2 := blk_frozen BK193.out 2; have hfz3_3 := blk_frozen BK193.out 3))
 go_loopg [3, 9] k (fun kq v3 v9 w' => ∃ (x3_1 : Int) (x9_1 : Int), v3 = .int .i64 x3_1 ∧ v9 = .int .i64 x9_1 ∧ Aside0 (parse_Depth.l0 kq x3_1 l0_3 (l0_3.length : Int) x9_1 = some r) ∧ Aside0 (kq ≤ k) ∧ Aside0 (w'.heap[gb193]? = some (.cells #[.int .i64 a0_0, .string a0_1, .string a0_2, (.slice A0_3 l0_3.length c0_3)] 39 (0, 0))) ∧ Aside0 (Below w.heap.size w w'))
 case atStart => exact ⟨(0), (0), (by first | rfl | (simp; done) | (simp [*]; done)), (by first | rfl | (simp; done) | (simp [*]; done)), H', ⟨Nat.le_refl _⟩, ⟨by (with_reducible repeat (first | refine blk_drewN ?_ _ | refine blk_drew ?_ | refine blk_alloc ?_ _)); exact BK193.out⟩, ⟨by repeat (first | (with_reducible first | exact HB.out | apply below_alloc | apply pw_below_drewN | apply below_drew1 | refine below_set ?_ GE193.out) | exact HB.out)⟩⟩
 case round =>
  clear H'
  try clear c1
  try clear p2
  try clear hcz3_0
  try clear hcz3_1
  try clear hcz3_2
  try clear hcz3_3
  try clear hfz3_0
  try clear hfz3_1
  try clear hfz3_2
  try clear hfz3_3
  obtain ⟨x3_1, x9_1, rfl, rfl, HA, HK1, BK193, HB⟩ := hrel
  cases gk with
  | zero => exact absurd HA.out (by simp [parse_Depth.l0])
  | succ k1 =>
   have H := HA.out
   clear HA
   simp only [parse_Depth.l0] at H
   by_cases c4 : x9_1 < (l0_3.length : Int)
   ·rw [if_pos c4] at H
    have c4b0 : decide (x9_1 < (l0_3.length : Int)) = true := decide_eq_true c4
    clear c4
    by_cases c5 : 0 ≤ x9_1
    ·rw [if_pos c5] at H
     have c5b0 : decide (0 ≤ x9_1) = true := decide_eq_true c5
     clear c5
     by_cases c6 : x9_1 < (l0_3.length : Int)
     ·rw [if_pos c6] at H
      have c6b0 : decide (x9_1 < (l0_3.length : Int)) = true := decide_eq_true c6
      clear c6
      replace H := Option.bind_eq_some_iff.mp H
      obtain ⟨t196, A70, H⟩ := H
      replace H : (parse_Depth.l0 k1 (mx x3_1 t196) l0_3 (l0_3.length : Int) (wrap64 (x9_1 + 1))) = some r := H
      have A7 := Aside0.mk A70
      clear A70
      obtain ⟨ji8, hji8⟩ : ∃ j_ : Int, (mx x3_1 t196) = j_ := ⟨_, rfl⟩
      replace H : (parse_Depth.l0 k1 ji8 l0_3 (l0_3.length : Int) (wrap64 (x9_1 + 1))) = some r := by first | (rw [hji8] at H; exact H) | (simp only [hji8] at H ⊢; exact H)
      (try rw [hji8] at A7)
      have hji8_ : (if x3_1 < t196 then t196 else x3_1) = ji8 := hji8
      have H' := Aside0.mk H
      clear H
      have p194 : 0 ≤ (x9_1 : Int) := of_decide_eq_true (by first | (with_reducible assumption) | assumption)
      have q194 : x9_1 < (l0_3.length : Int) := of_decide_eq_true (by first | (with_reducible assumption) | assumption)
      obtain ⟨ad194, A194_3, c194_3, e194, hx194_0, hx194_1, hx194_2, hx194_3, hl194_3, hi194_3⟩ := at_T39 HR0_3.out x9_1 p194 q194
      cases e194
      replace hx194_0 := (HB.out.cell (World.block_lt_of_cell? w _ hx194_0)).trans hx194_0
      replace hx194_1 := (HB.out.cell (World.block_lt_of_cell? w _ hx194_1)).trans hx194_1
      replace hx194_2 := (HB.out.cell (World.block_lt_of_cell? w _ hx194_2)).trans hx194_2
      replace hx194_3 := (HB.out.cell (World.block_lt_of_cell? w _ hx194_3)).trans hx194_3
      have HR194_3 := Aside0.mk hi194_3
      have HC194_3 := Aside0.mk hl194_3
      clear hi194_3 hl194_3
      replace p194 := eq_true p194
      replace q194 := eq_true q194
      go_wp2_with (first | ((with_reducible refine gate_dst (N := 5) rfl ?_); refine box_event ?hg (N := 5) ?hd (cs := #[.int .i64 0, .string (⟨#[]⟩ : ByteArray), .string (⟨#[]⟩ : ByteArray), .slice none 0 0]) (t := 39) ?hr ?_; (case hd => rfl); (case hg => rfl); (case hr => first | (go_simp; done) | (go_simp; rfl)); intro gb195 hg w9 hbox hb; have n0_ := Aside0.mk (blk_below (g := gb193) (o := .cells #[.int .i64 a0_0, .string a0_1, .string a0_2, .slice (some ad194) l0_3.length c0_3] 39 (0, 0)) (by (with_reducible repeat (first | refine blk_drewN ?_ _ | refine blk_drew ?_ | refine blk_alloc ?_ _)); exact BK193.out) hb); have n1_ := Aside0.mk (below_step (by repeat (first | (with_reducible first | exact HB.out | apply below_alloc | apply pw_below_drewN | apply below_drew1 | refine below_set ?_ GE193.out) | exact HB.out)) hb); have n2_ := Aside0.mk (hbox); have n3_ := Aside0.mk ((by rw [hg]; exact (below_size (by repeat (first | (with_reducible first | exact HB.out | apply below_alloc | apply pw_below_drewN | apply below_drew1 | refine below_set ?_ GE193.out) | exact HB.out))) : w.heap.size ≤ gb195)); have n4_ := Aside0.mk ((by rw [hg]; exact (below_size (by repeat (first | (with_reducible first | exact HB.out | apply below_alloc | apply pw_below_drewN | apply below_drew1 | refine below_set ?_ GE193.out) | exact HB.out))) : w.heap.size ≤ gb195)); have n5_ := Aside0.mk ((by rw [hg]; exact Nat.ne_of_lt (blk_lt (g := gb193) (o := .cells #[.int .i64 a0_0, .string a0_1, .string a0_2, .slice (some ad194) l0_3.length c0_3] 39 (0, 0)) (by (with_reducible repeat (first | refine blk_drewN ?_ _ | refine blk_drew ?_ | refine blk_alloc ?_ _)); exact BK193.out)) : gb193 ≠ gb195)); have n6_ := Aside0.mk ((by rw [hg]; exact Nat.ne_of_gt (blk_lt (g := gb193) (o := .cells #[.int .i64 a0_0, .string a0_1, .string a0_2, .slice (some ad194) l0_3.length c0_3] 39 (0, 0)) (by (with_reducible repeat (first | refine blk_drewN ?_ _ | refine blk_drew ?_ | refine blk_alloc ?_ _)); exact BK193.out)) : gb195 ≠ gb193)); clear BK193; clear HB; have BK193 := n0_; have HB := n1_; have BK195 := n2_; have GW195 := n3_; have GE195 := n4_; have NB193_195 := n5_; have NB195_193 := n6_; clear n0_ n1_ n2_ n3_ n4_ n5_ n6_; clear hb hbox hg; have hnb10 := NB195_193.out; have hnc10 := NB193_195.out; have hcz11_0 : w9.cell? ⟨gb195, 0, none⟩ = some (.int .i64 0) := (blk_cell BK195.out 0).trans rfl; have hcz11_1 : w9.cell? ⟨gb195, 1, none⟩ = some (.string (⟨#[]⟩ : ByteArray)) := (blk_cell BK195.out 1).trans rfl; have hcz11_2 : w9.cell? ⟨gb195, 2, none⟩ = some (.string (⟨#[]⟩ : ByteArray)) := (blk_cell BK195.out 2).trans rfl; have hcz11_3 : w9.cell? ⟨gb195, 3, none⟩ = some (.slice none 0 0) := (blk_cell BK195.out 3).trans rfl; have hfz11_0 := blk_frozen BK195.out 0; have hfz11_1 := blk_frozen BK195.out 1; have hfz11_2 := blk_frozen BK195.out 2; have hfz11_3 := blk_frozen BK195.out 3) | ((with_reducible refine gate_callee (f := 19) rfl ?_); refine goesL_ (some 15) rfl rfl Tryd.func19 (by kernel_rfl) rfl #[.agg #[.int .i64 ((rd_T39 l0_3 x9_1).f0), .string ((rd_T39 l0_3 x9_1).f1.f0), .string ((rd_T39 l0_3 x9_1).f1.f1), .slice A194_3 ((rd_T39 l0_3 x9_1).f2).length c194_3]] rfl (by (try simp only [List.map_toArray, List.map_cons, List.map_nil]); first | done | rfl | (simp only [List.length_drop, List.length_take]; rfl)) ?_; (with_reducible refine (ih k1 (by have := HK1.out; omega) ((rd_T39 l0_3 x9_1).f0) ((rd_T39 l0_3 x9_1).f1.f0) ((rd_T39 l0_3 x9_1).f1.f1) _ _ ((rd_T39 l0_3 x9_1).f2) t196 _ ?side1 ?side2 A7.out).mono ?_); (case side1 => exact Kd.C_below HR194_3.out (by repeat (first | (with_reducible first | exact HB.out | apply below_alloc | apply pw_below_drewN | apply below_drew1 | refine below_set ?_ GE193.out | refine below_set ?_ GE195.out) | exact HB.out))); (case side2 => exact HC194_3.out); rintro e w12 ⟨rfl, hb⟩; refine ⟨_, rfl, ?_⟩; have n0_ := Aside0.mk (blk_below (g := gb193) (o := .cells #[.int .i64 a0_0, .string a0_1, .string a0_2, .slice (some ad194) l0_3.length c0_3] 39 (0, 0)) (by (with_reducible repeat (first | refine blk_drewN ?_ _ | refine blk_drew ?_ | refine blk_alloc ?_ _)); refine blk_far ?_ NB193_195.out _; (with_reducible repeat (first | refine blk_drewN ?_ _ | refine blk_drew ?_ | refine blk_alloc ?_ _)); refine blk_far ?_ NB193_195.out _; (with_reducible repeat (first | refine blk_drewN ?_ _ | refine blk_drew ?_ | refine blk_alloc ?_ _)); refine blk_far ?_ NB193_195.out _; (with_reducible repeat (first | refine blk_drewN ?_ _ | refine blk_drew ?_ | refine blk_alloc ?_ _)); refine blk_far ?_ NB193_195.out _; (with_reducible repeat (first | refine blk_drewN ?_ _ | refine blk_drew ?_ | refine blk_alloc ?_ _)); exact BK193.out) hb); have n1_ := Aside0.mk (blk_below (g := gb195) (o := .cells #[.int .i64 ((rd_T39 l0_3 x9_1).f0), .string ((rd_T39 l0_3 x9_1).f1.f0), .string ((rd_T39 l0_3 x9_1).f1.f1), .slice A194_3 ((rd_T39 l0_3 x9_1).f2).length c194_3] 39 (0, 0)) (by (with_reducible repeat (first | refine blk_drewN ?_ _ | refine blk_drew ?_ | refine blk_alloc ?_ _)); refine blk_put (cs := #[.int .i64 ((rd_T39 l0_3 x9_1).f0), .string ((rd_T39 l0_3 x9_1).f1.f0), .string ((rd_T39 l0_3 x9_1).f1.f1), .slice none 0 0]) ?_ 3 _ rfl; (with_reducible repeat (first | refine blk_drewN ?_ _ | refine blk_drew ?_ | refine blk_alloc ?_ _)); refine blk_put (cs := #[.int .i64 ((rd_T39 l0_3 x9_1).f0), .string ((rd_T39 l0_3 x9_1).f1.f0), .string (⟨#[]⟩ : ByteArray), .slice none 0 0]) ?_ 2 _ rfl; (with_reducible repeat (first | refine blk_drewN ?_ _ | refine blk_drew ?_ | refine blk_alloc ?_ _)); refine blk_put (cs := #[.int .i64 ((rd_T39 l0_3 x9_1).f0), .string (⟨#[]⟩ : ByteArray), .string (⟨#[]⟩ : ByteArray), .slice none 0 0]) ?_ 1 _ rfl; (with_reducible repeat (first | refine blk_drewN ?_ _ | refine blk_drew ?_ | refine blk_alloc ?_ _)); refine blk_put (cs := #[.int .i64 0, .string (⟨#[]⟩ : ByteArray), .string (⟨#[]⟩ : ByteArray), .slice none 0 0]) ?_ 0 _ rfl; (with_reducible repeat (first | refine blk_drewN ?_ _ | refine blk_drew ?_ | refine blk_alloc ?_ _)); exact BK195.out) hb); have n2_ := Aside0.mk (below_step (by repeat (first | (with_reducible first | exact HB.out | apply below_alloc | apply pw_below_drewN | apply below_drew1 | refine below_set ?_ GE193.out | refine below_set ?_ GE195.out) | exact HB.out)) hb); clear BK193; clear BK195; clear HB; have BK193 := n0_; have BK195 := n1_; have HB := n2_; clear n0_ n1_ n2_; (try clear hb); (try clear hb2); (try clear hk); (try clear hi)))
      go_roundg k1
      case measure => have := HK1.out; omega
      case rel => exact ⟨(ji8), (wrap64 (x9_1 + 1)), (by first | rfl | (simp; done) | (simp only [← hji8] <;> (first | rfl | simp)) | (simp [*]; done)), (by first | rfl | (simp; done) | (simp [*]; done)), H', ⟨by have := HK1.out; omega⟩, ⟨by (with_reducible repeat (first | refine blk_drewN ?_ _ | refine blk_drew ?_ | refine blk_alloc ?_ _)); exact BK193.out⟩, ⟨by repeat (first | (with_reducible first | exact HB.out | apply below_alloc | apply pw_below_drewN | apply below_drew1 | refine below_set ?_ GE193.out | refine below_set ?_ GE195.out) | exact HB.out)⟩⟩
     ·rw [if_neg c6] at H
      exact absurd H (by simp)
    ·rw [if_neg c5] at H
     exact absurd H (by simp)
   ·rw [if_neg c4] at H
    have c4b0 : decide (x9_1 < (l0_3.length : Int)) = false := decide_eq_false c4
    clear c4
    obtain rfl := Option.some.inj H
    go_wp2
    go_ret
    exact ⟨by first | rfl | (simp [errW_none, errW_some] <;> rfl) | (simp [*, errW_none, errW_some] <;> rfl), by repeat (first | (with_reducible first | exact HB.out | apply below_alloc | apply pw_below_drewN | apply below_drew1 | refine below_set ?_ GE193.out) | exact HB.out)⟩
end Go.Proofs.YtdlahgamdigkhaaDoor.Pr
namespace Go.Proofs.YtdlahgamdigkhaaDoor.Lx
open Go.RowKit Go.Proofs.YtdlahgamdigkhaaDoor.Pr Go.Proofs.YtdlahgamdigkhaaDoorW.PrintWords Go.Proofs.YtdlahgamdigkhaaDoorW.PrintLast Go.Proofs.YtdlahgamdigkhaaDoorW.PrintMore
def rowEnd (s : ByteArray) (p : Int → Bool) : Nat → Nat → Nat
 | 0, i => i
 | d + 1, i => if i < s.size ∧ p (bt s i) = true then rowEnd s p d (i + 1) else i
def pBlank (c : Int) : Bool := c == 9 || c == 10 || c == 13 || c == 32
def pLetter (c : Int) : Bool := (decide (97 ≤ c) && decide (c ≤ 122)) || (decide (65 ≤ c) && decide (c ≤ 90))
def pWord (c : Int) : Bool := pLetter c || (decide (48 ≤ c) && decide (c ≤ 57)) || c == 45 || c == 95
def pNN (c : Int) : Bool := c != 10
def bEnd (s : ByteArray) (i : Nat) : Nat := rowEnd s pBlank (s.size - i) i
def nEnd (s : ByteArray) (i : Nat) : Nat := rowEnd s pNN (s.size - i) i
def wEnd (s : ByteArray) (i : Nat) : Nat := rowEnd s pWord (s.size - i) i
def btw2 (s : ByteArray) : Nat → Nat → Nat
 | 0, i => i
 | d + 1, i => if i < s.size ∧ bt s i = 35 then btw2 s d (bEnd s (nEnd s i)) else i
def btw (s : ByteArray) (i : Nat) : Nat := btw2 s (s.size - bEnd s i) (bEnd s i)
def quo (s : ByteArray) : Nat → Nat → List Int → (List Int × Nat × Bool)
 | 0, i, _ => ([], i, false)
 | d + 1, i, out =>
  if i < s.size then
   if bt s i = 34 then (out, i + 1, true)
   else if bt s i = 10 then ([], i, false)
   else if bt s i = 92 then
    if i + 1 = s.size then ([], i + 1, false)
    else if bt s ((i + 1 : Nat) : Int) = 34 ∨ bt s ((i + 1 : Nat) : Int) = 92 then quo s d (i + 2) (out ++ [bt s ((i + 1 : Nat) : Int)])
    else ([], i, false)
   else quo s d (i + 1) (out ++ [bt s i])
  else ([], i, false)
def quoE (s : ByteArray) (i : Nat) (out : List Int) : List Int × Nat × Bool := quo s (s.size - i) i out
abbrev Tk := S69
def opIdx (c : Int) : Int := if c = 40 then 3 else if c = 41 then 4 else 5
def tokE (s : ByteArray) (i : Nat) : Option (Tk × Nat × Bool) :=
 if pLetter (bt s i) = true then some (⟨1, i, s.extract i (wEnd s i)⟩, wEnd s i, true)
 else if bt s i = 34 then some (⟨2, i, strOfNums (quoE s (i + 1) []).1⟩, (quoE s (i + 1) []).2.1, (quoE s (i + 1) []).2.2)
 else if bt s i = 40 ∨ bt s i = 41 ∨ bt s i = 59 then some (⟨opIdx (bt s i), i, s.extract i (i + 1)⟩, i + 1, true)
 else none
theorem letter_word : ∀ c : Fin 256, pLetter (c.val : Int) = true → pWord (c.val : Int) = true := by decide +kernel
def runF (s : ByteArray) : Nat → Nat → List Tk → List Tk × Option Nat
 | 0, _, ts => (ts, none)
 | d + 1, i, ts =>
  if i < s.size then
   match tokE s i with
   | some (t, j, true) => runF s d (btw s j) (ts ++ [t])
   | some (t, j, false) => (ts ++ [t], some j)
   | none => (ts, some i)
  else (ts, none)
def run (s : ByteArray) (i : Nat) (ts : List Tk) : List Tk × Option Nat := runF s (s.size - i) i ts
end Go.Proofs.YtdlahgamdigkhaaDoor.Lx
namespace Go.Proofs.YtdlahgamdigkhaaDoor.Pu
open Go.RowKit Go.Proofs.YtdlahgamdigkhaaDoor.Pr Go.Proofs.YtdlahgamdigkhaaDoorW.PrintWords
theorem w64 {n : Int} (h0 : -9223372036854775808 ≤ n) (h1 : n ≤ 9223372036854775807) : wrap64 n = n := by
 unfold wrap64; omega
theorem bytesOf_range (s : ByteArray) : ∀ x ∈ bytesOf s, 0 ≤ x ∧ x ≤ 255 := by
 intro x hx
 unfold bytesOf at hx
 obtain ⟨b, _, rfl⟩ := List.mem_map.1 hx
 have := UInt8.toNat_lt b
 omega
theorem bytesOf_str (xs : List Int) (h : ∀ x ∈ xs, 0 ≤ x ∧ x ≤ 255) : bytesOf (strOfNums xs) = xs := by
 unfold bytesOf
 rw [strOfNums_data, List.map_map]
 conv => rhs; rw [← List.map_id xs]
 apply List.map_congr_left
 intro x hx
 have := h x hx
 simp [Function.comp]
 omega
theorem bt_drop (s : ByteArray) (i : Nat) (h : i < s.size) : (bytesOf s).drop i = bt s (i : Int) :: (bytesOf s).drop (i + 1) := by
 have hl : i < (bytesOf s).length := by rw [bytesOf_length]; exact h
 rw [List.drop_eq_getElem_cons hl]
 congr 1
 rw [← rd_bytesOf, rd, Int.toNat_natCast, List.getD_eq_getElem?_getD, List.getElem?_eq_getElem hl]
 rfl
theorem bytesOf_inj {s t : ByteArray} (h : bytesOf s = bytesOf t) : s = t := by
 have h2 : s.data.toList = t.data.toList := by
  unfold bytesOf at h
  refine (List.map_inj_right ?_).1 h
  intro a b hab
  exact UInt8.toNat_inj.1 (by omega)
 cases s with | mk a => cases t with | mk b => exact congrArg ByteArray.mk (Array.ext' h2)
theorem str_bytesOf (s : ByteArray) : strOfNums (bytesOf s) = s := by
 apply bytesOf_inj
 exact bytesOf_str _ (bytesOf_range s)
theorem wraps_i64 (n : Int) (h₀ : 0 ≤ n) (h₁ : n < 2 ^ 63) : IntKind.i64.wrap n = n := by rw [IntKind.wrap_i64]; omega
theorem i64_join (i : Nat) (x y : Int) (hx₀ : 0 ≤ x) (hx : x % 2 ^ i = 0) (hx₁ : x < 2 ^ 63) (hy₀ : 0 ≤ y) (hy : y < 2 ^ i) (hy₁ : y < 2 ^ 63) : Go.bits .or .i64 x y = x + y :=
 bits_join .i64 63 (by decide) wraps_i64 i x y hx₀ hx hx₁ hy₀ hy hy₁
theorem Ev.const {α : Type} {g : Nat → Option α} {r : α} (h : ∀ k, g k = some r) : Ev g r := ⟨0, fun k _ => h k⟩
end Go.Proofs.YtdlahgamdigkhaaDoor.Pu
namespace Go.Proofs.YtdlahgamdigkhaaDoorW.PrintWords
theorem Ev.eq {α : Type} {g : Nat → Option α} {r q : α} (h : Ev g r) (e : r = q) : Ev g q := e ▸ h
end Go.Proofs.YtdlahgamdigkhaaDoorW.PrintWords
namespace Go.Proofs.YtdlahgamdigkhaaDoor.Pu
open Go.RowKit Go.Proofs.YtdlahgamdigkhaaDoor.Pr Go.Proofs.YtdlahgamdigkhaaDoorW.PrintWords Go.Proofs.YtdlahgamdigkhaaDoor.Lx
inductive St where
 | sk : St
 | nt : St
 | wd (a : Nat) (acc : List Int) : St
 | qt (a : Nat) (acc : List Int) : St
 | es (a : Nat) (p : Nat) (acc : List Int) : St
inductive Out where
 | bad (j : Nat) : Out
 | good (ts : List Tk) : Out
inductive One where
 | bad (j : Nat) : One
 | go (st : St) (ts : List Tk) : One
def fin (n : Nat) : St → List Tk → Out
 | .sk, ts => .good ts
 | .nt, ts => .good ts
 | .wd a acc, ts => .good (ts ++ [⟨1, a, strOfNums acc⟩])
 | .qt _ _, _ => .bad n
 | .es _ _ _, _ => .bad n
def st1 (i : Nat) (c : Int) (ts : List Tk) : One :=
 if pBlank c = true then .go .sk ts
 else if c = 35 then .go .nt ts
 else if pLetter c = true then .go (.wd i [c]) ts
 else if c = 34 then .go (.qt i []) ts
 else if c = 40 ∨ c = 41 ∨ c = 59 then .go .sk (ts ++ [⟨opIdx c, i, strOfNums [c]⟩])
 else .bad i
def step (i : Nat) (c : Int) : St → List Tk → One
 | .sk, ts => st1 i c ts
 | .nt, ts => if c = 10 then .go .sk ts else .go .nt ts
 | .wd a acc, ts => if pWord c = true then .go (.wd a (acc ++ [c])) ts else st1 i c (ts ++ [⟨1, a, strOfNums acc⟩])
 | .qt a acc, ts => if c = 34 then .go .sk (ts ++ [⟨2, a, strOfNums acc⟩]) else if c = 10 then .bad i else if c = 92 then .go (.es a i acc) ts else .go (.qt a (acc ++ [c])) ts
 | .es a p acc, ts => if c = 34 ∨ c = 92 then .go (.qt a (acc ++ [c])) ts else .bad p
def sm : Nat → St → List Tk → List Int → Out
 | i, st, ts, [] => fin i st ts
 | i, st, ts, c :: l => match step i c st ts with
  | .bad j => .bad j
  | .go st' ts' => sm (i + 1) st' ts' l
def dr (s : ByteArray) (i : Nat) : List Int := (bytesOf s).drop i
theorem dr_cons (s : ByteArray) (i : Nat) (h : i < s.size) : dr s i = bt s (i : Int) :: dr s (i + 1) := bt_drop s i h
theorem dr_nil (s : ByteArray) (i : Nat) (h : ¬ i < s.size) : dr s i = [] := List.drop_eq_nil_of_le (by rw [bytesOf_length]; omega)
theorem strOfNums_inj_bytes (s : ByteArray) (xs : List Int) (h : bytesOf s = xs) : strOfNums xs = s := by rw [← h]; exact str_bytesOf s
theorem bytesOf_ext (s : ByteArray) (i j : Nat) : bytesOf (s.extract i j) = ((bytesOf s).take j).drop i := by
 unfold bytesOf
 rw [ByteArray.data_extract, Array.toList_extract, List.extract_eq_take_drop, List.map_take, List.map_drop, List.drop_take]
theorem sm_bad_le (s : ByteArray) : ∀ d i st ts j, s.size - i ≤ d → i ≤ s.size → (∀ a p acc, st = .es a p acc → p ≤ s.size) → sm i st ts (dr s i) = .bad j → j ≤ s.size := by
  intro d
  induction d with
  | zero =>
    intro i st ts j h hi he e
    rw [dr_nil s i (by omega), sm] at e
    cases st <;> simp [fin] at e <;> omega
  | succ d ih =>
    intro i st ts j h hi he e
    by_cases q : i < s.size
    · rw [dr_cons s i q, sm] at e
      cases hs : step i (bt s (i : Int)) st ts with
      | bad j' =>
        rw [hs] at e
        simp only [Out.bad.injEq] at e
        subst e
        cases st with
        | sk => simp only [step, st1] at hs; repeat' split at hs
                all_goals simp at hs; try omega
        | nt => simp only [step] at hs; split at hs <;> simp at hs
        | wd a acc => simp only [step, st1] at hs; repeat' split at hs
                      all_goals simp at hs; try omega
        | qt a acc => simp only [step] at hs; repeat' split at hs
                      all_goals simp at hs; try omega
        | es a p acc => simp only [step] at hs; repeat' split at hs
                        all_goals simp at hs; try (have := he a p acc rfl; omega)
      | go st' ts' =>
        rw [hs] at e
        have hes : ∀ a p acc, st' = .es a p acc → p ≤ s.size := by
          intro a p acc e2
          subst e2
          cases st with
          | sk => simp only [step, st1] at hs; repeat' split at hs
                  all_goals simp at hs
          | nt => simp only [step] at hs; split at hs <;> simp at hs
          | wd a acc => simp only [step, st1] at hs; repeat' split at hs
                        all_goals simp at hs
          | qt a acc => simp only [step] at hs; repeat' split at hs
                        all_goals simp at hs; try omega
          | es a p acc => simp only [step] at hs; repeat' split at hs
                          all_goals simp at hs
        exact ih (i + 1) st' ts' j (by omega) (by omega) hes e
    · rw [dr_nil s i q, sm] at e
      cases st <;> simp [fin] at e <;> omega
end Go.Proofs.YtdlahgamdigkhaaDoor.Pu
namespace Go.Proofs.YtdlahgamdigkhaaDoor.Pr
open Go.RowKit Go.Proofs.YtdlahgamdigkhaaDoorW.PrintWords Go.Proofs.YtdlahgamdigkhaaDoorW.PrintLast Go.Proofs.YtdlahgamdigkhaaDoorW.PrintMore
attribute [local go_sem] max2_int min2_int max_two min_two max_three min_three max_four min_four
def parapetref1_Lower.l0 : Nat → ByteArray → List Int → Int → Option (ByteArray)
 | 0, _, _, _ => none
 | k + 1, x0, x3, x4 => if x4 < (x0.size : Int) then (if 0 ≤ x4 then (if (bt x0 x4) ≥ 65 then (if (bt x0 x4) ≤ 90 then (if x3.length < 140737488355328 then (parapetref1_Lower.l0 k x0 (x3 ++ [((bt x0 x4) + 32) % 256]) (wrap64 (x4 + 1))) else (none)) else (if x3.length < 140737488355328 then (parapetref1_Lower.l0 k x0 (x3 ++ [bt x0 x4]) (wrap64 (x4 + 1))) else (none))) else (if x3.length < 140737488355328 then (parapetref1_Lower.l0 k x0 (x3 ++ [bt x0 x4]) (wrap64 (x4 + 1))) else (none))) else (none)) else (some (strOfNums x3))
def parapetref1_Lower.f (k : Nat) (a0 : ByteArray) : Option (ByteArray) := parapetref1_Lower.l0 k a0 ([] : List Int) 0
set_option maxHeartbeats 8000000 in
set_option maxRecDepth 100000 in
theorem parapetref1_Lower.calls (k : Nat) (a0 : ByteArray) (r : ByteArray) (w : World) (h : parapetref1_Lower.f k a0 = some r) :
  Calls Tryd.prog 81 #[.string a0] w fun e w' => e = .returned (.string r) ∧ Below w.heap.size w w' := by
 have HB := Aside0.mk (Below.refl w.heap.size w)
 have H : (parapetref1_Lower.l0 k a0 ([] : List Int) 0) = some r := h
 clear h
 have H' := Aside0.mk H
 clear H
 go_enter Tryd.func81, Tryd.ntmps81
 go_wp2
 go_loopg [3, 4] k (fun kq v3 v4 w' => ∃ (x3_1 : List Int) (x4_1 : Int), v4 = .int .i64 x4_1 ∧ Aside0 (parapetref1_Lower.l0 kq a0 x3_1 x4_1 = some r) ∧ Aside0 (kq ≤ k) ∧ Aside0 (Kd.R (Kd.int .u8) 5 w' w.heap.size (fun _ => True) v3 x3_1) ∧ Aside0 (Below w.heap.size w w'))
 case atStart => exact ⟨(([] : List Int)), (0), (by first | rfl | (simp; done) | (simp [*]; done)), H', ⟨Nat.le_refl _⟩, ⟨by first | exact Kd.R_nil _ _ _ _ _ | exact Kd.N_nil _ _ _ _ _ | exact Kd.V_nil _ _ _ _ _ | exact Kd.Q_nil _ _ _ _ _ | exact Kd.S_nil _ _ _ _ _⟩, ⟨by repeat (first | (with_reducible first | exact HB.out | apply below_alloc | apply pw_below_drewN | apply below_drew1) | exact HB.out)⟩⟩
 case round =>
  clear H'
  obtain ⟨x3_1, x4_1, rfl, HA, HK1, HO_3, HB⟩ := hrel
  cases gk with
  | zero => exact absurd HA.out (by simp [parapetref1_Lower.l0])
  | succ k1 =>
   have H := HA.out
   clear HA
   simp only [parapetref1_Lower.l0] at H
   by_cases c2 : x4_1 < (a0.size : Int)
   ·rw [if_pos c2] at H
    have c2b0 : decide (x4_1 < (a0.size : Int)) = true := decide_eq_true c2
    clear c2
    by_cases c3 : 0 ≤ x4_1
    ·rw [if_pos c3] at H
     have c3b0 : decide (0 ≤ x4_1) = true := decide_eq_true c3
     clear c3
     by_cases c5 : (bt a0 x4_1) ≥ 65
     ·rw [if_pos c5] at H
      have c5b0 : decide (65 ≤ (bt a0 x4_1)) = true := decide_eq_true c5
      clear c5
      by_cases c6 : (bt a0 x4_1) ≤ 90
      ·rw [if_pos c6] at H
       have c6b0 : decide ((bt a0 x4_1) ≤ 90) = true := decide_eq_true c6
       clear c6
       by_cases c7 : x3_1.length < 140737488355328
       ·rw [if_pos c7] at H
        have LMc7 := Aside0.mk c7
        clear c7
        obtain ⟨y210, hy210⟩ : ∃ y_ : List Int, y_ = (x3_1 ++ [((bt a0 x4_1) + 32) % 256]) := ⟨_, rfl⟩
        replace H : (parapetref1_Lower.l0 k1 a0 y210 (wrap64 (x4_1 + 1))) = some r := by first | (rw [hy210]; with_reducible exact H) | (have H2_ := (Option.bind_some _ _).symm.trans H; rw [hy210]; with_reducible exact H2_) | (have H2_ := (Option.bind_some _ _).symm.trans H; with_reducible exact H2_) | with_reducible exact H | (rw [hy210]; exact H) | exact H
        have Ny210 := Aside0.mk hy210
        clear hy210
        have H' := Aside0.mk H
        clear H
        have p4 : 0 ≤ (x4_1 : Int) := of_decide_eq_true (by first | (with_reducible assumption) | assumption)
        have q4 : x4_1 < (a0.size : Int) := of_decide_eq_true (by first | (with_reducible assumption) | assumption)
        have hx4 := bt_at a0 x4_1
        replace p4 := eq_true p4
        replace q4 := eq_true q4
        go_wp2_with (first | ((with_reducible refine gate_builtin (b := .append) (xs := #[.tmp 23, .tmp 25]) rfl ?_); at_builtin; refine Kd.R_append (Kd.int .u8) (w0 := w) w.heap.size rfl (.tmp 23) (.tmp 25) 42 5 (.int .u8 0) 1 rfl Tryd.underlying42 info5 rfl (by decide) (by omega) u3 x3_1 (((bt a0 x4_1) + 32) % 256) [.int .u8 (((bt a0 x4_1) + 32) % 256)] (fun _ => True) (fun _ => False) rfl rfl ?aP (fun _ hk => hk.elim) ?aF ?aO ?aB ?aS ?aL ?_; (case aP => exact rfl); (case aB => exact (by repeat (first | (with_reducible first | exact HB.out | apply below_alloc | apply pw_below_drewN | apply below_drew1) | exact HB.out))); (case aF => exact (fun _ _ => trivial)); (case aO => exact (by (with_reducible repeat (first | apply Kd.R_alloc | apply Kd.R_drewN | apply Kd.R_drew)); exact HO_3.out)); (case aS => exact (below_size (by repeat (first | (with_reducible first | exact HB.out | apply below_alloc | apply pw_below_drewN | apply below_drew1) | exact HB.out)))); (case aL => have := LMc7.out; omega); intro v211 w8 ho hb hg hat; rw [← Ny210.out] at ho; have n0_ := Aside0.mk (hb); have n1_ := Aside0.mk (ho); clear HB; clear HO_3; have HB := n0_; have HO212 := n1_; clear n0_ n1_; clear ho hb hg hat))
        go_roundg k1
        case measure => have := HK1.out; omega
        case rel => exact ⟨(y210), (wrap64 (x4_1 + 1)), (by first | rfl | (simp; done) | (simp [*]; done)), H', ⟨by have := HK1.out; omega⟩, ⟨by (with_reducible repeat (first | apply Kd.R_alloc | apply Kd.R_drewN | apply Kd.R_drew)); exact HO212.out⟩, ⟨by repeat (first | (with_reducible first | exact HB.out | apply below_alloc | apply pw_below_drewN | apply below_drew1) | exact HB.out)⟩⟩
       ·rw [if_neg c7] at H
        exact absurd H (by simp)
      ·rw [if_neg c6] at H
       have c6b0 : decide ((bt a0 x4_1) ≤ 90) = false := decide_eq_false c6
       clear c6
       by_cases c9 : x3_1.length < 140737488355328
       ·rw [if_pos c9] at H
        have LMc9 := Aside0.mk c9
        clear c9
        obtain ⟨y213, hy213⟩ : ∃ y_ : List Int, y_ = (x3_1 ++ [bt a0 x4_1]) := ⟨_, rfl⟩
        replace H : (parapetref1_Lower.l0 k1 a0 y213 (wrap64 (x4_1 + 1))) = some r := by first | (rw [hy213]; with_reducible exact H) | (have H2_ := (Option.bind_some _ _).symm.trans H; rw [hy213]; with_reducible exact H2_) | (have H2_ := (Option.bind_some _ _).symm.trans H; with_reducible exact H2_) | with_reducible exact H | (rw [hy213]; exact H) | exact H
        have Ny213 := Aside0.mk hy213
        clear hy213
        have H' := Aside0.mk H
        clear H
        have p4 : 0 ≤ (x4_1 : Int) := of_decide_eq_true (by first | (with_reducible assumption) | assumption)
        have q4 : x4_1 < (a0.size : Int) := of_decide_eq_true (by first | (with_reducible assumption) | assumption)
        have hx4 := bt_at a0 x4_1
        replace p4 := eq_true p4
        replace q4 := eq_true q4
        go_wp2_with (first | ((with_reducible refine gate_builtin (b := .append) (xs := #[.tmp 23, .tmp 25]) rfl ?_); at_builtin; refine Kd.R_append (Kd.int .u8) (w0 := w) w.heap.size rfl (.tmp 23) (.tmp 25) 42 5 (.int .u8 0) 1 rfl Tryd.underlying42 info5 rfl (by decide) (by omega) u3 x3_1 (bt a0 x4_1) [.int .u8 (bt a0 x4_1)] (fun _ => True) (fun _ => False) rfl rfl ?aP (fun _ hk => hk.elim) ?aF ?aO ?aB ?aS ?aL ?_; (case aP => exact rfl); (case aB => exact (by repeat (first | (with_reducible first | exact HB.out | apply below_alloc | apply pw_below_drewN | apply below_drew1) | exact HB.out))); (case aF => exact (fun _ _ => trivial)); (case aO => exact (by (with_reducible repeat (first | apply Kd.R_alloc | apply Kd.R_drewN | apply Kd.R_drew)); exact HO_3.out)); (case aS => exact (below_size (by repeat (first | (with_reducible first | exact HB.out | apply below_alloc | apply pw_below_drewN | apply below_drew1) | exact HB.out)))); (case aL => have := LMc9.out; omega); intro v214 w10 ho hb hg hat; rw [← Ny213.out] at ho; have n0_ := Aside0.mk (hb); have n1_ := Aside0.mk (ho); clear HB; clear HO_3; have HB := n0_; have HO215 := n1_; clear n0_ n1_; clear ho hb hg hat))
        go_roundg k1
        case measure => have := HK1.out; omega
        case rel => exact ⟨(y213), (wrap64 (x4_1 + 1)), (by first | rfl | (simp; done) | (simp [*]; done)), H', ⟨by have := HK1.out; omega⟩, ⟨by (with_reducible repeat (first | apply Kd.R_alloc | apply Kd.R_drewN | apply Kd.R_drew)); exact HO215.out⟩, ⟨by repeat (first | (with_reducible first | exact HB.out | apply below_alloc | apply pw_below_drewN | apply below_drew1) | exact HB.out)⟩⟩
       ·rw [if_neg c9] at H
        exact absurd H (by simp)
     ·rw [if_neg c5] at H
      have c5b0 : decide (65 ≤ (bt a0 x4_1)) = false := decide_eq_false c5
      clear c5
      by_cases c11 : x3_1.length < 140737488355328
      ·rw [if_pos c11] at H
       have LMc11 := Aside0.mk c11
       clear c11
       obtain ⟨y216, hy216⟩ : ∃ y_ : List Int, y_ = (x3_1 ++ [bt a0 x4_1]) := ⟨_, rfl⟩
       replace H : (parapetref1_Lower.l0 k1 a0 y216 (wrap64 (x4_1 + 1))) = some r := by first | (rw [hy216]; with_reducible exact H) | (have H2_ := (Option.bind_some _ _).symm.trans H; rw [hy216]; with_reducible exact H2_) | (have H2_ := (Option.bind_some _ _).symm.trans H; with_reducible exact H2_) | with_reducible exact H | (rw [hy216]; exact H) | exact H
       have Ny216 := Aside0.mk hy216
       clear hy216
       have H' := Aside0.mk H
       clear H
       have p4 : 0 ≤ (x4_1 : Int) := of_decide_eq_true (by first | (with_reducible assumption) | assumption)
       have q4 : x4_1 < (a0.size : Int) := of_decide_eq_true (by first | (with_reducible assumption) | assumption)
       have hx4 := bt_at a0 x4_1
       replace p4 := eq_true p4
       replace q4 := eq_true q4
       go_wp2_with (first | ((with_reducible refine gate_builtin (b := .append) (xs := #[.tmp 23, .tmp 25]) rfl ?_); at_builtin; refine Kd.R_append (Kd.int .u8) (w0 := w) w.heap.size rfl (.tmp 23) (.tmp 25) 42 5 (.int .u8 0) 1 rfl Tryd.underlying42 info5 rfl (by decide) (by omega) u3 x3_1 (bt a0 x4_1) [.int .u8 (bt a0 x4_1)] (fun _ => True) (fun _ => False) rfl rfl ?aP (fun _ hk => hk.elim) ?aF ?aO ?aB ?aS ?aL ?_; (case aP => exact rfl); (case aB => exact (by repeat (first | (with_reducible first | exact HB.out | apply below_alloc | apply pw_below_drewN | apply below_drew1) | exact HB.out))); (case aF => exact (fun _ _ => trivial)); (case aO => exact (by (with_reducible repeat (first | apply Kd.R_alloc | apply Kd.R_drewN | apply Kd.R_drew)); exact HO_3.out)); (case aS => exact (below_size (by repeat (first | (with_reducible first | exact HB.out | apply below_alloc | apply pw_below_drewN | apply below_drew1) | exact HB.out)))); (case aL => have := LMc11.out; omega); intro v217 w12 ho hb hg hat; rw [← Ny216.out] at ho; have n0_ := Aside0.mk (hb); have n1_ := Aside0.mk (ho); clear HB; clear HO_3; have HB := n0_; have HO218 := n1_; clear n0_ n1_; clear ho hb hg hat))
       go_roundg k1
       case measure => have := HK1.out; omega
       case rel => exact ⟨(y216), (wrap64 (x4_1 + 1)), (by first | rfl | (simp; done) | (simp [*]; done)), H', ⟨by have := HK1.out; omega⟩, ⟨by (with_reducible repeat (first | apply Kd.R_alloc | apply Kd.R_drewN | apply Kd.R_drew)); exact HO218.out⟩, ⟨by repeat (first | (with_reducible first | exact HB.out | apply below_alloc | apply pw_below_drewN | apply below_drew1) | exact HB.out)⟩⟩
      ·rw [if_neg c11] at H
       exact absurd H (by simp)
    ·rw [if_neg c3] at H
     exact absurd H (by simp)
   ·rw [if_neg c2] at H
    have c2b0 : decide (x4_1 < (a0.size : Int)) = false := decide_eq_false c2
    clear c2
    obtain rfl := Option.some.inj H
    have hcv13 := own_string (P := Tryd.prog) Tryd.underlying42 Tryd.underlying5 Tryd.underlying9 (Kd.own_of_R HO_3.out)
    have hcv13q := fun (q_ : Nat) => own_string (P := Tryd.prog) Tryd.underlying42 Tryd.underlying5 Tryd.underlying9 (Kd.own_of_R (Kd.R_drewN HO_3.out q_))
    go_wp2
    go_ret
    exact ⟨by first | rfl | (simp [errW_none, errW_some] <;> rfl) | (simp [*, errW_none, errW_some] <;> rfl), by repeat (first | (with_reducible first | exact HB.out | apply below_alloc | apply pw_below_drewN | apply below_drew1) | exact HB.out)⟩
mutual
def parapetref9_runeAt.j2 : Nat → ByteArray → Int → Int → Int → Option (Int)
 | 0, _, _, _, _ => none
 | k + 1, x0, x4, x5, x6 => if (x0.size : Int) < x4 then (some 0) else (parapetref9_runeAt.l0 k x0 x4 x5 x6 1)
def parapetref9_runeAt.l0 : Nat → ByteArray → Int → Int → Int → Int → Option (Int)
 | 0, _, _, _, _, _ => none
 | k + 1, x0, x4, x5, x6, x7 => if x7 < x4 then (if 0 ≤ x7 then (if x7 < (x0.size : Int) then (if (Go.bits .and .u8 (bt x0 x7) 192) = 128 then (parapetref9_runeAt.l0 k x0 x4 (Go.bits .or .i64 (wrap64 (x5 * 64)) (wrap64 (Go.bits .and .u8 (bt x0 x7) 63))) x6 (wrap64 (x7 + 1))) else (some 0)) else (none)) else (none)) else (if x5 < x6 then (some 0) else (if x5 > 1114111 then (some 0) else (if x5 ≥ 55296 then (if x5 ≤ 57343 then (some 0) else (some x4)) else (some x4))))
def parapetref9_runeAt.j0 : Nat → ByteArray → Int → Int → Bool → Option (Int)
 | 0, _, _, _, _ => none
 | k + 1, x0, x3, x5, x15 => if x15 = true then (parapetref9_runeAt.j2 k x0 2 (Go.bits .and .i64 x5 31) 128) else (if x3 ≥ 224 then (parapetref9_runeAt.j1 k x0 x3 x5 (decide (x3 < 240))) else (parapetref9_runeAt.j1 k x0 x3 x5 false))
def parapetref9_runeAt.j1 : Nat → ByteArray → Int → Int → Bool → Option (Int)
 | 0, _, _, _, _ => none
 | k + 1, x0, x3, x5, x24 => if x24 = true then (parapetref9_runeAt.j2 k x0 3 (Go.bits .and .i64 x5 15) 2048) else (if x3 ≥ 240 then (if x3 < 245 then (parapetref9_runeAt.j2 k x0 4 (Go.bits .and .i64 x5 7) 65536) else (some 0)) else (some 0))
end
def parapetref9_runeAt.f (k : Nat) (a0 : ByteArray) : Option (Int) := if 0 < (a0.size : Int) then (if (bt a0 0) < 128 then (some 1) else (if (bt a0 0) ≥ 194 then (parapetref9_runeAt.j0 k a0 (bt a0 0) (wrap64 (bt a0 0)) (decide ((bt a0 0) < 224))) else (parapetref9_runeAt.j0 k a0 (bt a0 0) (wrap64 (bt a0 0)) false))) else (none)
set_option maxHeartbeats 8000000 in
set_option maxRecDepth 100000 in
theorem parapetref9_runeAt.calls (k : Nat) (a0 : ByteArray) (r : Int) (w : World) (h : parapetref9_runeAt.f k a0 = some r) :
  Calls Tryd.prog 54 #[.string a0] w fun e w' => e = .returned (.int .i64 r) ∧ Drawn0 w w' := by
 have H : (if 0 < (a0.size : Int) then (if (bt a0 0) < 128 then (some 1) else (if (bt a0 0) ≥ 194 then (parapetref9_runeAt.j0 k a0 (bt a0 0) (wrap64 (bt a0 0)) (decide ((bt a0 0) < 224))) else (parapetref9_runeAt.j0 k a0 (bt a0 0) (wrap64 (bt a0 0)) false))) else (none)) = some r := h
 clear h
 by_cases c2 : 0 < (a0.size : Int)
 ·rw [if_pos c2] at H
  have c2b0 : decide (0 < (a0.size : Int)) = true := decide_eq_true c2
  have c2b1 : decide (0 < a0.size) = true := decide_eq_true (by omega)
  clear c2
  have HC4 := Aside0.mk H
  clear H
  have p3 : 0 ≤ (0 : Int) := (by omega)
  have q3 : 0 < a0.size := (by have : (0 : Int) < (a0.size : Int) := of_decide_eq_true (by first | (with_reducible assumption) | assumption); omega)
  have hx3 : ∀ h : 0 < a0.size, ((a0[0]'h).toNat : Int) = bt a0 0 := bt_at a0 0
  clear p3
  have qi3 : (0 < (a0.size : Int)) = True := eq_true (of_decide_eq_true (by first | (with_reducible assumption) | assumption))
  replace q3 := eq_true q3
  go_enter Tryd.func54, Tryd.ntmps54
  go_upto_block 0 with (fail)
  go_cut [4, 5, 6] (fun v4 v5 v6 wc => ∃ (kq : Nat) (x4_3 : Int) (x5_3 : Int) (x6_3 : Int), v4 = .int .i64 x4_3 ∧ v5 = .int .i64 x5_3 ∧ v6 = .int .i64 x6_3 ∧ Aside0 (parapetref9_runeAt.j2 kq a0 x4_3 x5_3 x6_3 = some r) ∧ Aside0 (kq ≤ k) ∧ Drawn0 w wc)
  case first =>
   have H := HC4.out
   clear HC4
   by_cases c5 : (bt a0 0) < 128
   ·rw [if_pos c5] at H
    have c5b0 : decide ((bt a0 0) < 128) = true := decide_eq_true c5
    clear c5
    (first | rw [c5b0] | (simp only [i64_w, i32_w]; rw [c5b0]) | skip)
    obtain rfl := Option.some.inj H
    go_wp2
    go_ret
    exact sAt2_0
   ·rw [if_neg c5] at H
    have c5b0 : decide ((bt a0 0) < 128) = false := decide_eq_false c5
    clear c5
    (first | rw [c5b0] | (simp only [i64_w, i32_w]; rw [c5b0]) | skip)
    have HC6 := Aside0.mk H
    clear H
    go_upto_region 8 with (fail)
    go_cut [15] (fun v15 wc => ∃ (kq : Nat) (x15_5 : Bool), v15 = .bool x15_5 ∧ Aside0 (parapetref9_runeAt.j0 kq a0 (bt a0 0) (wrap64 (bt a0 0)) x15_5 = some r) ∧ Aside0 (kq ≤ k) ∧ Drawn0 w wc)
    case first =>
     have H := HC6.out
     clear HC6
     by_cases c7 : (bt a0 0) ≥ 194
     ·rw [if_pos c7] at H
      have c7b0 : decide (194 ≤ (bt a0 0)) = true := decide_eq_true c7
      clear c7
      (first | rw [c7b0] | (simp only [i64_w, i32_w]; rw [c7b0]) | skip)
      have H' := Aside0.mk H
      clear H
      go_wp2
      go_meet
      case rel => exact ⟨_, (decide ((bt a0 0) < 224)), (by first | rfl | (simp; done) | (simp [*]; done)), H', ⟨by first | omega | exact Nat.le_refl _⟩, by repeat (first | exact Drawn0.refl _ | apply Drawn0.step)⟩
     ·rw [if_neg c7] at H
      have c7b0 : decide (194 ≤ (bt a0 0)) = false := decide_eq_false c7
      clear c7
      (first | rw [c7b0] | (simp only [i64_w, i32_w]; rw [c7b0]) | skip)
      have H' := Aside0.mk H
      clear H
      go_wp2
      go_meet
      case rel => exact ⟨_, (false), (by first | rfl | (simp; done) | (simp [*]; done)), H', ⟨by first | omega | exact Nat.le_refl _⟩, by repeat (first | exact Drawn0.refl _ | apply Drawn0.step)⟩
    case rest =>
     clear HC6
     try clear c2
     try clear c2b0
     try clear c2b1
     try clear p2
     try clear p3
     try clear q3
     try clear hx3
     try clear qi3
     try clear c5
     try clear c5b0
     try clear p6
     try clear c7
     try clear c7b0
     try clear p3
     try clear q3
     obtain ⟨kq, x15_5, rfl, HA, HJ5, ⟨mc5, rfl⟩⟩ := hcut
     cases kq with
     | zero => exact absurd HA.out (by simp [parapetref9_runeAt.j0])
     | succ kj5 =>
      have H := HA.out
      clear HA
      simp only [parapetref9_runeAt.j0] at H
      by_cases c8 : x15_5 = true
      ·subst c8
       have H1 : (parapetref9_runeAt.j2 kj5 a0 2 (Go.bits .and .i64 (wrap64 (bt a0 0)) 31) 128) = some r := by rw [if_pos rfl] at H; exact H
       clear H
       have H := H1
       clear H1
       have H' := Aside0.mk H
       clear H
       go_wp2
       go_meet
       case rel => exact ⟨_, (2), (Go.bits .and .i64 (wrap64 (bt a0 0)) 31), (128), (by first | rfl | (simp; done) | (simp [*]; done)), (by first | rfl | (simp; done) | (simp [*]; done)), (by first | rfl | (simp; done) | (simp [*]; done)), H', ⟨by have := HJ5.out; first | omega | exact Nat.le_refl _⟩, by repeat (first | exact Drawn0.refl _ | apply Drawn0.step)⟩
      ·replace c8 := Bool.eq_false_iff.mpr c8
       subst c8
       have H1 : (if (bt a0 0) ≥ 224 then (parapetref9_runeAt.j1 kj5 a0 (bt a0 0) (wrap64 (bt a0 0)) (decide ((bt a0 0) < 240))) else (parapetref9_runeAt.j1 kj5 a0 (bt a0 0) (wrap64 (bt a0 0)) false)) = some r := by rw [if_neg (show ¬ (false = true) by decide)] at H; exact H
       clear H
       have H := H1
       clear H1
       have HC9 := Aside0.mk H
       clear H
       go_upto_region 12 with (fail)
       go_cut [24] (fun v24 wc => ∃ (kq : Nat) (x24_8 : Bool), v24 = .bool x24_8 ∧ Aside0 (parapetref9_runeAt.j1 kq a0 (bt a0 0) (wrap64 (bt a0 0)) x24_8 = some r) ∧ Aside0 (kq ≤ kj5) ∧ Drawn0 w wc)
       case first =>
        have H := HC9.out
        clear HC9
        by_cases c10 : (bt a0 0) ≥ 224
        ·rw [if_pos c10] at H
         have c10b0 : decide (224 ≤ (bt a0 0)) = true := decide_eq_true c10
         clear c10
         (first | rw [c10b0] | (simp only [i64_w, i32_w]; rw [c10b0]) | skip)
         have H' := Aside0.mk H
         clear H
         go_wp2
         go_meet
         case rel => exact ⟨_, (decide ((bt a0 0) < 240)), (by first | rfl | (simp; done) | (simp [*]; done)), H', ⟨by have := HJ5.out; first | omega | exact Nat.le_refl _⟩, by repeat (first | exact Drawn0.refl _ | apply Drawn0.step)⟩
        ·rw [if_neg c10] at H
         have c10b0 : decide (224 ≤ (bt a0 0)) = false := decide_eq_false c10
         clear c10
         (first | rw [c10b0] | (simp only [i64_w, i32_w]; rw [c10b0]) | skip)
         have H' := Aside0.mk H
         clear H
         go_wp2
         go_meet
         case rel => exact ⟨_, (false), (by first | rfl | (simp; done) | (simp [*]; done)), H', ⟨by have := HJ5.out; first | omega | exact Nat.le_refl _⟩, by repeat (first | exact Drawn0.refl _ | apply Drawn0.step)⟩
       case rest =>
        clear HC9
        try clear c1
        try clear c2
        try clear c2b0
        try clear c2b1
        try clear p2
        try clear p3
        try clear q3
        try clear hx3
        try clear qi3
        try clear c5
        try clear c5b0
        try clear p6
        try clear c7
        try clear c7b0
        try clear c8
        try clear c10
        try clear c10b0
        try clear p2
        try clear p3
        try clear p6
        try clear q3
        obtain ⟨kq, x24_8, rfl, HA, HJ8, ⟨mc8, rfl⟩⟩ := hcut
        cases kq with
        | zero => exact absurd HA.out (by simp [parapetref9_runeAt.j1])
        | succ kj8 =>
         have H := HA.out
         clear HA
         simp only [parapetref9_runeAt.j1] at H
         by_cases c11 : x24_8 = true
         ·subst c11
          have H1 : (parapetref9_runeAt.j2 kj8 a0 3 (Go.bits .and .i64 (wrap64 (bt a0 0)) 15) 2048) = some r := by rw [if_pos rfl] at H; exact H
          clear H
          have H := H1
          clear H1
          have H' := Aside0.mk H
          clear H
          go_wp2
          go_meet
          case rel => exact ⟨_, (3), (Go.bits .and .i64 (wrap64 (bt a0 0)) 15), (2048), (by first | rfl | (simp; done) | (simp [*]; done)), (by first | rfl | (simp; done) | (simp [*]; done)), (by first | rfl | (simp; done) | (simp [*]; done)), H', ⟨by have := HJ5.out; have := HJ8.out; first | omega | exact Nat.le_refl _⟩, by repeat (first | exact Drawn0.refl _ | apply Drawn0.step)⟩
         ·replace c11 := Bool.eq_false_iff.mpr c11
          subst c11
          have H1 : (if (bt a0 0) ≥ 240 then (if (bt a0 0) < 245 then (parapetref9_runeAt.j2 kj8 a0 4 (Go.bits .and .i64 (wrap64 (bt a0 0)) 7) 65536) else (some 0)) else (some 0)) = some r := by rw [if_neg (show ¬ (false = true) by decide)] at H; exact H
          clear H
          have H := H1
          clear H1
          by_cases c12 : (bt a0 0) ≥ 240
          ·rw [if_pos c12] at H
           have c12b0 : decide (240 ≤ (bt a0 0)) = true := decide_eq_true c12
           clear c12
           by_cases c13 : (bt a0 0) < 245
           ·rw [if_pos c13] at H
            have c13b0 : decide ((bt a0 0) < 245) = true := decide_eq_true c13
            clear c13
            have H' := Aside0.mk H
            clear H
            go_wp2
            go_meet
            case rel => exact ⟨_, (4), (Go.bits .and .i64 (wrap64 (bt a0 0)) 7), (65536), (by first | rfl | (simp; done) | (simp [*]; done)), (by first | rfl | (simp; done) | (simp [*]; done)), (by first | rfl | (simp; done) | (simp [*]; done)), H', ⟨by have := HJ5.out; have := HJ8.out; first | omega | exact Nat.le_refl _⟩, by repeat (first | exact Drawn0.refl _ | apply Drawn0.step)⟩
           ·rw [if_neg c13] at H
            have c13b0 : decide ((bt a0 0) < 245) = false := decide_eq_false c13
            clear c13
            obtain rfl := Option.some.inj H
            go_wp2
            go_ret
            exact sAt2_0
          ·rw [if_neg c12] at H
           have c12b0 : decide (240 ≤ (bt a0 0)) = false := decide_eq_false c12
           clear c12
           obtain rfl := Option.some.inj H
           go_wp2
           go_ret
           exact sAt2_0
  case rest =>
   clear HC4
   try clear c1
   try clear c2
   try clear c2b0
   try clear c2b1
   try clear p2
   try clear p3
   try clear q3
   try clear hx3
   try clear qi3
   try clear c5
   try clear c5b0
   try clear p6
   try clear c7
   try clear c7b0
   try clear c8
   try clear c10
   try clear c10b0
   try clear c11
   try clear c12
   try clear c12b0
   try clear c13
   try clear c13b0
   try clear p2
   try clear p3
   try clear p6
   try clear q3
   obtain ⟨kq, x4_3, x5_3, x6_3, rfl, rfl, rfl, HA, HJ3, ⟨mc3, rfl⟩⟩ := hcut
   cases kq with
   | zero => exact absurd HA.out (by simp [parapetref9_runeAt.j2])
   | succ kj3 =>
    have H := HA.out
    clear HA
    simp only [parapetref9_runeAt.j2] at H
    by_cases c14 : (a0.size : Int) < x4_3
    ·rw [if_pos c14] at H
     have c14b0 : decide ((a0.size : Int) < x4_3) = true := decide_eq_true c14
     clear c14
     obtain rfl := Option.some.inj H
     go_wp2
     go_ret
     exact sAt2_0
    ·rw [if_neg c14] at H
     have c14b0 : decide ((a0.size : Int) < x4_3) = false := decide_eq_false c14
     clear c14
     have H' := Aside0.mk H
     clear H
     go_wp2
     go_loopg [5, 7] kj3 (fun kq v5 v7 w' => ∃ (x5_2 : Int) (x7_2 : Int), v5 = .int .i64 x5_2 ∧ v7 = .int .i64 x7_2 ∧ Aside0 (parapetref9_runeAt.l0 kq a0 x4_3 x5_2 x6_3 x7_2 = some r) ∧ Aside0 (kq ≤ kj3) ∧ Drawn0 w w')
     case atStart => exact ⟨(x5_3), (1), (by first | rfl | (simp; done) | (simp [*]; done)), (by first | rfl | (simp; done) | (simp [*]; done)), H', ⟨Nat.le_refl _⟩, by repeat (first | exact Drawn0.refl _ | apply Drawn0.step)⟩
     case round =>
      clear H'
      try clear c1
      try clear c2
      try clear c2b0
      try clear c2b1
      try clear p2
      try clear c3
      try clear p3
      try clear q3
      try clear hx3
      try clear qi3
      try clear c5
      try clear c5b0
      try clear p6
      try clear c7
      try clear c7b0
      try clear c8
      try clear c10
      try clear c10b0
      try clear c11
      try clear c12
      try clear c12b0
      try clear c13
      try clear c13b0
      try clear c14
      try clear c14b0
      try clear p2
      try clear p3
      try clear p6
      try clear q3
      obtain ⟨x5_2, x7_2, rfl, rfl, HA, HK2, ⟨m2, rfl⟩⟩ := hrel
      cases gk with
      | zero => exact absurd HA.out (by simp [parapetref9_runeAt.l0])
      | succ k2 =>
       have H := HA.out
       clear HA
       simp only [parapetref9_runeAt.l0] at H
       by_cases c15 : x7_2 < x4_3
       ·rw [if_pos c15] at H
        have c15b0 : decide (x7_2 < x4_3) = true := decide_eq_true c15
        clear c15
        by_cases c16 : 0 ≤ x7_2
        ·rw [if_pos c16] at H
         have c16b0 : decide (0 ≤ x7_2) = true := decide_eq_true c16
         clear c16
         by_cases c17 : x7_2 < (a0.size : Int)
         ·rw [if_pos c17] at H
          have c17b0 : decide (x7_2 < (a0.size : Int)) = true := decide_eq_true c17
          clear c17
          by_cases c19 : (Go.bits .and .u8 (bt a0 x7_2) 192) = 128
          ·rw [if_pos c19] at H
           have c19b0 : ((Go.bits .and .u8 (bt a0 x7_2) 192) == 128) = true := beq_iff_eq.mpr c19
           have c19b1 : ((Go.bits .and .u8 (bt a0 x7_2) 192) != 128) = false := bne_eq_false_iff_eq.mpr c19
           clear c19
           have H' := Aside0.mk H
           clear H
           have p18 : 0 ≤ (x7_2 : Int) := of_decide_eq_true (by first | (with_reducible assumption) | assumption)
           have q18 : x7_2 < (a0.size : Int) := of_decide_eq_true (by first | (with_reducible assumption) | assumption)
           have hx18 := bt_at a0 x7_2
           replace p18 := eq_true p18
           replace q18 := eq_true q18
           have p20 : 0 ≤ (x7_2 : Int) := of_decide_eq_true (by first | (with_reducible assumption) | assumption)
           have q20 : x7_2 < (a0.size : Int) := of_decide_eq_true (by first | (with_reducible assumption) | assumption)
           have hx20 := bt_at a0 x7_2
           replace p20 := eq_true p20
           replace q20 := eq_true q20
           go_wp2
           go_roundg k2
           case measure => have := HJ3.out; have := HK2.out; omega
           case rel => exact ⟨(Go.bits .or .i64 (wrap64 (x5_2 * 64)) (wrap64 (Go.bits .and .u8 (bt a0 x7_2) 63))), (wrap64 (x7_2 + 1)), (by first | rfl | (simp; done) | (simp [*]; done)), (by first | rfl | (simp; done) | (simp [*]; done)), H', ⟨by have := HJ3.out; have := HK2.out; omega⟩, by repeat (first | exact Drawn0.refl _ | apply Drawn0.step)⟩
          ·rw [if_neg c19] at H
           have c19b0 : ((Go.bits .and .u8 (bt a0 x7_2) 192) == 128) = false := beq_eq_false_iff_ne.mpr c19
           have c19b1 : ((Go.bits .and .u8 (bt a0 x7_2) 192) != 128) = true := bne_iff_ne.mpr c19
           obtain rfl := Option.some.inj H
           have p18 : 0 ≤ (x7_2 : Int) := of_decide_eq_true (by first | (with_reducible assumption) | assumption)
           have q18 : x7_2 < (a0.size : Int) := of_decide_eq_true (by first | (with_reducible assumption) | assumption)
           have hx18 := bt_at a0 x7_2
           replace p18 := eq_true p18
           replace q18 := eq_true q18
           go_wp2
           go_ret
           exact sAt2_0
         ·rw [if_neg c17] at H
          exact absurd H (by simp)
        ·rw [if_neg c16] at H
         exact absurd H (by simp)
       ·rw [if_neg c15] at H
        have c15b0 : decide (x7_2 < x4_3) = false := decide_eq_false c15
        clear c15
        by_cases c21 : x5_2 < x6_3
        ·rw [if_pos c21] at H
         have c21b0 : decide (x5_2 < x6_3) = true := decide_eq_true c21
         clear c21
         obtain rfl := Option.some.inj H
         go_wp2
         go_ret
         exact sAt2_0
        ·rw [if_neg c21] at H
         have c21b0 : decide (x5_2 < x6_3) = false := decide_eq_false c21
         clear c21
         by_cases c22 : x5_2 > 1114111
         ·rw [if_pos c22] at H
          have c22b0 : decide (1114111 < x5_2) = true := decide_eq_true c22
          clear c22
          obtain rfl := Option.some.inj H
          go_wp2
          go_ret
          exact sAt2_0
         ·rw [if_neg c22] at H
          have c22b0 : decide (1114111 < x5_2) = false := decide_eq_false c22
          clear c22
          by_cases c23 : x5_2 ≥ 55296
          ·rw [if_pos c23] at H
           have c23b0 : decide (55296 ≤ x5_2) = true := decide_eq_true c23
           clear c23
           by_cases c24 : x5_2 ≤ 57343
           ·rw [if_pos c24] at H
            have c24b0 : decide (x5_2 ≤ 57343) = true := decide_eq_true c24
            clear c24
            obtain rfl := Option.some.inj H
            go_wp2
            go_ret
            exact sAt2_0
           ·rw [if_neg c24] at H
            have c24b0 : decide (x5_2 ≤ 57343) = false := decide_eq_false c24
            clear c24
            obtain rfl := Option.some.inj H
            go_wp2
            go_ret
            exact sAt2_0
          ·rw [if_neg c23] at H
           have c23b0 : decide (55296 ≤ x5_2) = false := decide_eq_false c23
           clear c23
           obtain rfl := Option.some.inj H
           go_wp2
           go_ret
           exact sAt2_0
 ·rw [if_neg c2] at H
  exact absurd H (by simp)
def parapetref9_Broken.l0 : Nat → ByteArray → Int → Option (Int)
 | 0, _, _ => none
 | k + 1, x0, x3 => if x3 < (x0.size : Int) then (if 0 ≤ x3 then (if x3 ≤ (x0.size : Int) then ((parapetref9_runeAt.f k (x0.extract (x3 : Int).toNat x0.size)).bind fun t219 => (if t219 = 0 then (some x3) else (parapetref9_Broken.l0 k x0 (wrap64 (x3 + t219))))) else (none)) else (none)) else (some (x0.size : Int))
def parapetref9_Broken.f (k : Nat) (a0 : ByteArray) : Option (Int) := parapetref9_Broken.l0 k a0 0
set_option maxHeartbeats 8000000 in
set_option maxRecDepth 100000 in
theorem parapetref9_Broken.calls (k : Nat) (a0 : ByteArray) (r : Int) (w : World) (h : parapetref9_Broken.f k a0 = some r) :
  Calls Tryd.prog 40 #[.string a0] w fun e w' => e = .returned (.int .i64 r) ∧ Drawn0 w w' := by
 have H : (parapetref9_Broken.l0 k a0 0) = some r := h
 clear h
 have H' := Aside0.mk H
 clear H
 go_enter Tryd.func40, Tryd.ntmps40
 go_wp2
 go_loopg [3] k (fun kq v3 w' => ∃ (x3_1 : Int), v3 = .int .i64 x3_1 ∧ Aside0 (parapetref9_Broken.l0 kq a0 x3_1 = some r) ∧ Aside0 (kq ≤ k) ∧ Drawn0 w w')
 case atStart => exact ⟨(0), (by first | rfl | (simp; done) | (simp [*]; done)), H', ⟨Nat.le_refl _⟩, by repeat (first | exact Drawn0.refl _ | apply Drawn0.step)⟩
 case round =>
  clear H'
  obtain ⟨x3_1, rfl, HA, HK1, ⟨m1, rfl⟩⟩ := hrel
  cases gk with
  | zero => exact absurd HA.out (by simp [parapetref9_Broken.l0])
  | succ k1 =>
   have H := HA.out
   clear HA
   simp only [parapetref9_Broken.l0] at H
   by_cases c2 : x3_1 < (a0.size : Int)
   ·rw [if_pos c2] at H
    have c2b0 : decide (x3_1 < (a0.size : Int)) = true := decide_eq_true c2
    clear c2
    by_cases c3 : 0 ≤ x3_1
    ·rw [if_pos c3] at H
     have c3b0 := eq_true c3
     have c3b1 : decide (0 ≤ x3_1) = true := decide_eq_true c3
     clear c3
     by_cases c4 : x3_1 ≤ (a0.size : Int)
     ·rw [if_pos c4] at H
      have c4b0 := eq_true c4
      have c4b1 : decide (x3_1 ≤ (a0.size : Int)) = true := decide_eq_true c4
      clear c4
      replace H := Option.bind_eq_some_iff.mp H
      obtain ⟨t219, A50, H⟩ := H
      replace H : (if t219 = 0 then (some x3_1) else (parapetref9_Broken.l0 k1 a0 (wrap64 (x3_1 + t219)))) = some r := H
      have A5 := Aside0.mk A50
      clear A50
      by_cases c6 : t219 = 0
      ·rw [if_pos c6] at H
       have c6b0 : (t219 == 0) = true := beq_iff_eq.mpr c6
       have c6b1 : (t219 != 0) = false := bne_eq_false_iff_eq.mpr c6
       clear c6
       obtain rfl := Option.some.inj H
       go_wp2_with (first | ((with_reducible refine gate_callee (f := 54) rfl ?_); refine goesL_ (some 12) rfl rfl Tryd.func54 (by kernel_rfl) rfl #[.string (a0.extract (x3_1 : Int).toNat a0.size)] rfl (by (try simp only [List.map_toArray, List.map_cons, List.map_nil]); first | done | rfl | (simp only [List.length_drop, List.length_take]; rfl)) ?_; (with_reducible refine (parapetref9_runeAt.calls k1 (a0.extract (x3_1 : Int).toNat a0.size) t219 _ A5.out).mono ?_); rintro e w' ⟨rfl, ⟨nd, rfl⟩⟩; refine ⟨_, rfl, ?_⟩))
       go_ret
       exact sAt2_0
      ·rw [if_neg c6] at H
       have c6b0 : (t219 == 0) = false := beq_eq_false_iff_ne.mpr c6
       have c6b1 : (t219 != 0) = true := bne_iff_ne.mpr c6
       have H' := Aside0.mk H
       clear H
       go_wp2_with (first | ((with_reducible refine gate_callee (f := 54) rfl ?_); refine goesL_ (some 12) rfl rfl Tryd.func54 (by kernel_rfl) rfl #[.string (a0.extract (x3_1 : Int).toNat a0.size)] rfl (by (try simp only [List.map_toArray, List.map_cons, List.map_nil]); first | done | rfl | (simp only [List.length_drop, List.length_take]; rfl)) ?_; (with_reducible refine (parapetref9_runeAt.calls k1 (a0.extract (x3_1 : Int).toNat a0.size) t219 _ A5.out).mono ?_); rintro e w' ⟨rfl, ⟨nd, rfl⟩⟩; refine ⟨_, rfl, ?_⟩))
       go_roundg k1
       case measure => have := HK1.out; omega
       case rel => exact ⟨(wrap64 (x3_1 + t219)), (by first | rfl | (simp; done) | (simp [*]; done)), H', ⟨by have := HK1.out; omega⟩, by repeat (first | exact Drawn0.refl _ | apply Drawn0.step)⟩
     ·rw [if_neg c4] at H
      exact absurd H (by simp)
    ·rw [if_neg c3] at H
     exact absurd H (by simp)
   ·rw [if_neg c2] at H
    have c2b0 : decide (x3_1 < (a0.size : Int)) = false := decide_eq_false c2
    clear c2
    obtain rfl := Option.some.inj H
    go_wp2
    go_ret
    exact sAt2_0
def parapetref1_Letter.f (a0 : Int) : Option (Bool) := if a0 ≥ 97 then (if a0 ≤ 122 then (some true) else (if a0 ≥ 65 then (some (decide (a0 ≤ 90))) else (some false))) else (if a0 ≥ 65 then (some (decide (a0 ≤ 90))) else (some false))
set_option maxHeartbeats 8000000 in
set_option maxRecDepth 100000 in
theorem parapetref1_Letter.calls (a0 : Int) (r : Bool) (w : World) (h : parapetref1_Letter.f a0 = some r) :
  Calls Tryd.prog 70 #[.int .u8 a0] w fun e w' => e = .returned (.bool r) ∧ Drawn0 w w' := by
 have H : (if a0 ≥ 97 then (if a0 ≤ 122 then (some true) else (if a0 ≥ 65 then (some (decide (a0 ≤ 90))) else (some false))) else (if a0 ≥ 65 then (some (decide (a0 ≤ 90))) else (some false))) = some r := h
 clear h
 by_cases c2 : a0 ≥ 97
 ·rw [if_pos c2] at H
  have c2b0 : decide (97 ≤ a0) = true := decide_eq_true c2
  clear c2
  by_cases c3 : a0 ≤ 122
  ·rw [if_pos c3] at H
   have c3b0 : decide (a0 ≤ 122) = true := decide_eq_true c3
   clear c3
   obtain rfl := Option.some.inj H
   go_enter Tryd.func70, Tryd.ntmps70
   go_wp2
   go_ret
   exact sAt2_0
  ·rw [if_neg c3] at H
   have c3b0 : decide (a0 ≤ 122) = false := decide_eq_false c3
   clear c3
   by_cases c4 : a0 ≥ 65
   ·rw [if_pos c4] at H
    have c4b0 : decide (65 ≤ a0) = true := decide_eq_true c4
    clear c4
    obtain rfl := Option.some.inj H
    go_enter Tryd.func70, Tryd.ntmps70
    go_wp2
    go_ret
    exact sAt2_0
   ·rw [if_neg c4] at H
    have c4b0 : decide (65 ≤ a0) = false := decide_eq_false c4
    clear c4
    obtain rfl := Option.some.inj H
    go_enter Tryd.func70, Tryd.ntmps70
    go_wp2
    go_ret
    exact sAt2_0
 ·rw [if_neg c2] at H
  have c2b0 : decide (97 ≤ a0) = false := decide_eq_false c2
  clear c2
  by_cases c5 : a0 ≥ 65
  ·rw [if_pos c5] at H
   have c5b0 : decide (65 ≤ a0) = true := decide_eq_true c5
   clear c5
   obtain rfl := Option.some.inj H
   go_enter Tryd.func70, Tryd.ntmps70
   go_wp2
   go_ret
   exact sAt2_0
  ·rw [if_neg c5] at H
   have c5b0 : decide (65 ≤ a0) = false := decide_eq_false c5
   clear c5
   obtain rfl := Option.some.inj H
   go_enter Tryd.func70, Tryd.ntmps70
   go_wp2
   go_ret
   exact sAt2_0
def parapetref1_Digit.f (a0 : Int) : Option (Bool) := if a0 ≥ 48 then (some (decide (a0 ≤ 57))) else (some false)
set_option maxHeartbeats 8000000 in
set_option maxRecDepth 100000 in
theorem parapetref1_Digit.calls (a0 : Int) (r : Bool) (w : World) (h : parapetref1_Digit.f a0 = some r) :
  Calls Tryd.prog 71 #[.int .u8 a0] w fun e w' => e = .returned (.bool r) ∧ Drawn0 w w' := by
 have H : (if a0 ≥ 48 then (some (decide (a0 ≤ 57))) else (some false)) = some r := h
 clear h
 by_cases c2 : a0 ≥ 48
 ·rw [if_pos c2] at H
  have c2b0 : decide (48 ≤ a0) = true := decide_eq_true c2
  clear c2
  obtain rfl := Option.some.inj H
  go_enter Tryd.func71, Tryd.ntmps71
  go_wp2
  go_ret
  exact sAt2_0
 ·rw [if_neg c2] at H
  have c2b0 : decide (48 ≤ a0) = false := decide_eq_false c2
  clear c2
  obtain rfl := Option.some.inj H
  go_enter Tryd.func71, Tryd.ntmps71
  go_wp2
  go_ret
  exact sAt2_0
end Go.Proofs.YtdlahgamdigkhaaDoor.Pr
namespace Go.Proofs.YtdlahgamdigkhaaDoor.Pu
open Go.RowKit Go.Proofs.YtdlahgamdigkhaaDoor.Pr Go.Proofs.YtdlahgamdigkhaaDoorW.PrintWords
def runeLen (n b0 b1 b2 b3 : Int) : Int :=
 if b0 < 128 then 1
 else if b0 < 194 then 0
 else if b0 < 224 then (if 2 ≤ n ∧ 128 ≤ b1 ∧ b1 < 192 then 2 else 0)
 else if b0 < 240 then (if 3 ≤ n ∧ 128 ≤ b1 ∧ b1 < 192 ∧ 128 ≤ b2 ∧ b2 < 192 ∧ 2048 ≤ (b0 % 16 * 64 + b1 % 64) * 64 + b2 % 64 ∧ ¬ (55296 ≤ (b0 % 16 * 64 + b1 % 64) * 64 + b2 % 64 ∧ (b0 % 16 * 64 + b1 % 64) * 64 + b2 % 64 ≤ 57343) then 3 else 0)
 else if b0 < 245 then (if 4 ≤ n ∧ 128 ≤ b1 ∧ b1 < 192 ∧ 128 ≤ b2 ∧ b2 < 192 ∧ 128 ≤ b3 ∧ b3 < 192 ∧ 65536 ≤ ((b0 % 8 * 64 + b1 % 64) * 64 + b2 % 64) * 64 + b3 % 64 ∧ ((b0 % 8 * 64 + b1 % 64) * 64 + b2 % 64) * 64 + b3 % 64 ≤ 1114111 then 4 else 0)
 else 0
theorem byte_facts : ∀ c : Fin 256, (Go.bits .and .u8 (c.val : Int) 192 = 128 ↔ (128 ≤ (c.val : Int) ∧ (c.val : Int) < 192)) ∧ wrap64 (Go.bits .and .u8 (c.val : Int) 63) = (c.val : Int) % 64 ∧ Go.bits .and .i64 (wrap64 (c.val : Int)) 31 = (c.val : Int) % 32 ∧ Go.bits .and .i64 (wrap64 (c.val : Int)) 15 = (c.val : Int) % 16 ∧ Go.bits .and .i64 (wrap64 (c.val : Int)) 7 = (c.val : Int) % 8 := by decide +kernel
theorem byte_fact {c : Int} (h0 : 0 ≤ c) (h1 : c ≤ 255) : (Go.bits .and .u8 c 192 = 128 ↔ (128 ≤ c ∧ c < 192)) ∧ wrap64 (Go.bits .and .u8 c 63) = c % 64 ∧ Go.bits .and .i64 (wrap64 c) 31 = c % 32 ∧ Go.bits .and .i64 (wrap64 c) 15 = c % 16 ∧ Go.bits .and .i64 (wrap64 c) 7 = c % 8 := by
 obtain ⟨q, rfl⟩ : ∃ q : Fin 256, (q.val : Int) = c := ⟨⟨c.toNat, by omega⟩, by simp; omega⟩
 exact byte_facts q
theorem l0_yes (x : ByteArray) (n u least j : Int) (hj : j < n) (h0 : 0 ≤ j) (hs : j < x.size) (hb : j ≤ 10) (hu : 0 ≤ u) (hu2 : u < 1048576) (hc : 128 ≤ bt x j ∧ bt x j < 192) {r : Int}
  (h : Ev (fun k => parapetref9_runeAt.l0 k x n (u * 64 + bt x j % 64) least (j + 1)) r) : Ev (fun k => parapetref9_runeAt.l0 k x n u least j) r := by
 have hr := bt_range x j
 have hf := byte_fact hr.1 hr.2
 refine Ev.step (fun k => ?_) h
 simp only [parapetref9_runeAt.l0]
 rw [if_pos hj, if_pos h0, if_pos hs, if_pos (hf.1.2 hc), hf.2.1, w64 (by omega) (by omega), w64 (by omega) (by omega), i64_join 6 (u * 64) (bt x j % 64) (by omega) (by omega) (by omega) (by omega) (by omega) (by omega)]
theorem l0_no (x : ByteArray) (n u least j : Int) (hj : j < n) (h0 : 0 ≤ j) (hs : j < x.size) (hc : ¬ (128 ≤ bt x j ∧ bt x j < 192)) : Ev (fun k => parapetref9_runeAt.l0 k x n u least j) 0 := by
 have hr := bt_range x j
 have hf := byte_fact hr.1 hr.2
 refine Ev.step (fun k => ?_) (Ev.now 0)
 simp only [parapetref9_runeAt.l0]
 rw [if_pos hj, if_pos h0, if_pos hs, if_neg (fun h => hc (hf.1.1 h))]
theorem l0_end (x : ByteArray) (n u least : Int) : Ev (fun k => parapetref9_runeAt.l0 k x n u least n) (if least ≤ u ∧ u ≤ 1114111 ∧ ¬ (55296 ≤ u ∧ u ≤ 57343) then n else 0) := by
 refine Ev.step (fun k => ?_) (Ev.now _)
 simp only [parapetref9_runeAt.l0]
 rw [if_neg (by omega)]
 by_cases h1 : u < least
 ·rw [if_pos h1, if_neg (by omega)]
 ·rw [if_neg h1]
  by_cases h2 : u > 1114111
  ·rw [if_pos h2, if_neg (by omega)]
  ·rw [if_neg h2]
   by_cases h3 : u ≥ 55296
   ·rw [if_pos h3]
    by_cases h4 : u ≤ 57343
    ·rw [if_pos h4, if_neg (by omega)]
    ·rw [if_neg h4, if_pos (by omega)]
   ·rw [if_neg h3, if_pos (by omega)]
theorem j2_short (x : ByteArray) (n u least : Int) (h : (x.size : Int) < n) : Ev (fun k => parapetref9_runeAt.j2 k x n u least) 0 := by
 refine Ev.step (fun k => ?_) (Ev.now 0)
 simp only [parapetref9_runeAt.j2]
 rw [if_pos h]
theorem j2_long (x : ByteArray) (n u least : Int) (h : ¬ (x.size : Int) < n) {r : Int} (e : Ev (fun k => parapetref9_runeAt.l0 k x n u least 1) r) : Ev (fun k => parapetref9_runeAt.j2 k x n u least) r := by
 refine Ev.step (fun k => ?_) e
 simp only [parapetref9_runeAt.j2]
 rw [if_neg h]
theorem rune_two (x : ByteArray) (u : Int) (hu : 0 ≤ u) (hu2 : u < 32) : Ev (fun k => parapetref9_runeAt.j2 k x 2 u 128) (if 2 ≤ (x.size : Int) ∧ 128 ≤ bt x 1 ∧ bt x 1 < 192 ∧ 128 ≤ u * 64 + bt x 1 % 64 then 2 else 0) := by
 by_cases hs : (x.size : Int) < 2
 ·exact (j2_short x 2 u 128 hs).eq (by rw [if_neg (by omega)])
 ·refine j2_long x 2 u 128 hs ?_
  by_cases c1 : 128 ≤ bt x 1 ∧ bt x 1 < 192
  ·exact l0_yes x 2 u 128 1 (by omega) (by omega) (by omega) (by omega) hu (by omega) c1 ((l0_end x 2 _ 128).eq (by
    by_cases q : 128 ≤ u * 64 + bt x 1 % 64
    ·rw [if_pos (by omega), if_pos (by omega)]
    ·rw [if_neg (by omega), if_neg (by omega)]))
  ·exact (l0_no x 2 u 128 1 (by omega) (by omega) (by omega) c1).eq (by rw [if_neg (by omega)])
theorem rune_three (x : ByteArray) (u : Int) (hu : 0 ≤ u) (hu2 : u < 16) : Ev (fun k => parapetref9_runeAt.j2 k x 3 u 2048) (if 3 ≤ (x.size : Int) ∧ 128 ≤ bt x 1 ∧ bt x 1 < 192 ∧ 128 ≤ bt x 2 ∧ bt x 2 < 192 ∧ 2048 ≤ (u * 64 + bt x 1 % 64) * 64 + bt x 2 % 64 ∧ ¬ (55296 ≤ (u * 64 + bt x 1 % 64) * 64 + bt x 2 % 64 ∧ (u * 64 + bt x 1 % 64) * 64 + bt x 2 % 64 ≤ 57343) then 3 else 0) := by
 by_cases hs : (x.size : Int) < 3
 ·exact (j2_short x 3 u 2048 hs).eq (by rw [if_neg (by omega)])
 ·refine j2_long x 3 u 2048 hs ?_
  by_cases c1 : 128 ≤ bt x 1 ∧ bt x 1 < 192
  ·refine l0_yes x 3 u 2048 1 (by omega) (by omega) (by omega) (by omega) hu (by omega) c1 ?_
   by_cases c2 : 128 ≤ bt x 2 ∧ bt x 2 < 192
   ·refine l0_yes x 3 _ 2048 2 (by omega) (by omega) (by omega) (by omega) (by omega) (by omega) c2 ((l0_end x 3 _ 2048).eq ?_)
    have hv : (u * 64 + bt x 1 % 64) * 64 + bt x 2 % 64 ≤ 65535 := by omega
    generalize (u * 64 + bt x 1 % 64) * 64 + bt x 2 % 64 = v at *
    by_cases q : 2048 ≤ v ∧ ¬ (55296 ≤ v ∧ v ≤ 57343)
    ·rw [if_pos ⟨q.1, by omega, q.2⟩, if_pos ⟨by omega, c1.1, c1.2, c2.1, c2.2, q.1, q.2⟩]
    ·rw [if_neg (fun h => q ⟨h.1, h.2.2⟩), if_neg (fun h => q ⟨h.2.2.2.2.2.1, h.2.2.2.2.2.2⟩)]
   ·exact (l0_no x 3 _ 2048 2 (by omega) (by omega) (by omega) c2).eq (by rw [if_neg (by omega)])
  ·exact (l0_no x 3 u 2048 1 (by omega) (by omega) (by omega) c1).eq (by rw [if_neg (by omega)])
theorem rune_four (x : ByteArray) (u : Int) (hu : 0 ≤ u) (hu2 : u < 8) : Ev (fun k => parapetref9_runeAt.j2 k x 4 u 65536) (if 4 ≤ (x.size : Int) ∧ 128 ≤ bt x 1 ∧ bt x 1 < 192 ∧ 128 ≤ bt x 2 ∧ bt x 2 < 192 ∧ 128 ≤ bt x 3 ∧ bt x 3 < 192 ∧ 65536 ≤ ((u * 64 + bt x 1 % 64) * 64 + bt x 2 % 64) * 64 + bt x 3 % 64 ∧ ((u * 64 + bt x 1 % 64) * 64 + bt x 2 % 64) * 64 + bt x 3 % 64 ≤ 1114111 then 4 else 0) := by
 by_cases hs : (x.size : Int) < 4
 ·exact (j2_short x 4 u 65536 hs).eq (by rw [if_neg (by omega)])
 ·refine j2_long x 4 u 65536 hs ?_
  by_cases c1 : 128 ≤ bt x 1 ∧ bt x 1 < 192
  ·refine l0_yes x 4 u 65536 1 (by omega) (by omega) (by omega) (by omega) hu (by omega) c1 ?_
   by_cases c2 : 128 ≤ bt x 2 ∧ bt x 2 < 192
   ·refine l0_yes x 4 _ 65536 2 (by omega) (by omega) (by omega) (by omega) (by omega) (by omega) c2 ?_
    by_cases c3 : 128 ≤ bt x 3 ∧ bt x 3 < 192
    ·refine l0_yes x 4 _ 65536 3 (by omega) (by omega) (by omega) (by omega) (by omega) (by omega) c3 ((l0_end x 4 _ 65536).eq ?_)
     generalize ((u * 64 + bt x 1 % 64) * 64 + bt x 2 % 64) * 64 + bt x 3 % 64 = v at *
     by_cases q : 65536 ≤ v ∧ v ≤ 1114111
     ·rw [if_pos ⟨q.1, q.2, by omega⟩, if_pos ⟨by omega, c1.1, c1.2, c2.1, c2.2, c3.1, c3.2, q.1, q.2⟩]
     ·rw [if_neg (fun h => q ⟨h.1, h.2.1⟩), if_neg (fun h => q ⟨h.2.2.2.2.2.2.2.1, h.2.2.2.2.2.2.2.2⟩)]
    ·exact (l0_no x 4 _ 65536 3 (by omega) (by omega) (by omega) c3).eq (by rw [if_neg (by omega)])
   ·exact (l0_no x 4 _ 65536 2 (by omega) (by omega) (by omega) c2).eq (by rw [if_neg (by omega)])
  ·exact (l0_no x 4 u 65536 1 (by omega) (by omega) (by omega) c1).eq (by rw [if_neg (by omega)])
theorem rune_ev (x : ByteArray) (h : 0 < x.size) : Ev (fun k => parapetref9_runeAt.f k x) (runeLen x.size (bt x 0) (bt x 1) (bt x 2) (bt x 3)) := by
 have hr := bt_range x 0
 have hf := byte_fact hr.1 hr.2
 unfold parapetref9_runeAt.f runeLen
 simp only [show (0 : Int) < (x.size : Int) from by omega, if_true]
 by_cases a1 : bt x 0 < 128
 ·simp only [a1, if_true]; exact Ev.now 1
 ·simp only [a1, if_false]
  have j0F : ∀ r : Int, Ev (fun k => if bt x 0 ≥ 224 then parapetref9_runeAt.j1 k x (bt x 0) (wrap64 (bt x 0)) (decide (bt x 0 < 240)) else parapetref9_runeAt.j1 k x (bt x 0) (wrap64 (bt x 0)) false) r → Ev (fun k => parapetref9_runeAt.j0 k x (bt x 0) (wrap64 (bt x 0)) false) r := by
   intro r h
   refine Ev.step (fun k => ?_) h
   simp only [parapetref9_runeAt.j0, Bool.false_eq_true, if_false]
  have j1F : ∀ r : Int, Ev (fun k => if bt x 0 ≥ 240 then (if bt x 0 < 245 then parapetref9_runeAt.j2 k x 4 (Go.bits .and .i64 (wrap64 (bt x 0)) 7) 65536 else some 0) else some 0) r → Ev (fun k => parapetref9_runeAt.j1 k x (bt x 0) (wrap64 (bt x 0)) false) r := by
   intro r h
   refine Ev.step (fun k => ?_) h
   simp only [parapetref9_runeAt.j1, Bool.false_eq_true, if_false]
  by_cases a2 : bt x 0 < 194
  ·simp only [a2, if_true, show ¬ bt x 0 ≥ 194 from by omega, if_false]
   apply j0F
   simp only [show ¬ bt x 0 ≥ 224 from by omega, if_false]
   apply j1F
   simp only [show ¬ bt x 0 ≥ 240 from by omega, if_false]
   exact Ev.now 0
  ·simp only [a2, if_false, show bt x 0 ≥ 194 from by omega, if_true]
   by_cases a3 : bt x 0 < 224
   ·simp only [a3, if_true, decide_true]
    refine Ev.step (f := fun k => parapetref9_runeAt.j2 k x 2 (bt x 0 % 32) 128) (fun k => ?_) ((rune_two x (bt x 0 % 32) (by omega) (by omega)).eq ?_)
    ·simp only [parapetref9_runeAt.j0, if_true]
     rw [hf.2.2.1]
    ·by_cases q : 2 ≤ (x.size : Int) ∧ 128 ≤ bt x 1 ∧ bt x 1 < 192
     ·rw [if_pos q, if_pos ⟨q.1, q.2.1, q.2.2, by omega⟩]
     ·rw [if_neg q, if_neg (fun h => q ⟨h.1, h.2.1, h.2.2.1⟩)]
   ·simp only [a3, if_false, decide_false]
    apply j0F
    simp only [show bt x 0 ≥ 224 from by omega, if_true]
    by_cases a4 : bt x 0 < 240
    ·simp only [a4, if_true, decide_true]
     refine Ev.step (f := fun k => parapetref9_runeAt.j2 k x 3 (bt x 0 % 16) 2048) (fun k => ?_) (rune_three x (bt x 0 % 16) (by omega) (by omega))
     simp only [parapetref9_runeAt.j1, if_true]
     rw [hf.2.2.2.1]
    ·simp only [a4, if_false, decide_false]
     apply j1F
     simp only [show bt x 0 ≥ 240 from by omega, if_true]
     by_cases a5 : bt x 0 < 245
     ·simp only [a5, if_true]
      rw [hf.2.2.2.2]
      exact rune_four x (bt x 0 % 8) (by omega) (by omega)
     ·simp only [a5, if_false]; exact Ev.now 0
def runeD (l : List UInt8) : Nat := if (Go.Lib.decodeL l).1 = 65533 ∧ (Go.Lib.decodeL l).2 = 1 then 0 else (Go.Lib.decodeL l).2
theorem runeN (n b0 b1 b2 b3 : Nat) (h1 : b1 < 256) (h2 : b2 < 256) (h3 : b3 < 256) (h0 : b0 < 256) (hn : 0 < n) :
  ((if (Go.Lib.decodeN n b0 b1 b2 b3).1 = 65533 ∧ (Go.Lib.decodeN n b0 b1 b2 b3).2 = 1 then 0 else (Go.Lib.decodeN n b0 b1 b2 b3).2 : Nat) : Int) = runeLen n b0 b1 b2 b3 := by
 unfold runeLen
 by_cases a1 : b0 < 128
 ·have e : Go.Lib.decodeN n b0 b1 b2 b3 = (b0, 1) := by unfold Go.Lib.decodeN; rw [if_pos a1]
  rw [e, if_neg (by simp only; omega), if_pos (by omega)]; rfl
 rw [if_neg (show ¬ (b0 : Int) < 128 by omega)]
 by_cases a2 : b0 < 194
 ·have e : Go.Lib.decodeN n b0 b1 b2 b3 = (65533, 1) := by
   unfold Go.Lib.decodeN
   rw [if_neg a1]
   by_cases q : b0 / 32 = 6 ∧ (1 < n ∧ b1 / 64 = 2)
   ·rw [if_pos q, if_neg (by omega)]
   ·rw [if_neg q, if_neg (by omega), if_neg (by omega)]
  rw [e, if_pos ⟨rfl, rfl⟩, if_pos (by omega)]; rfl
 rw [if_neg (show ¬ (b0 : Int) < 194 by omega)]
 by_cases a3 : b0 < 224
 ·rw [if_pos (show (b0 : Int) < 224 by omega)]
  by_cases q : 2 ≤ n ∧ 128 ≤ b1 ∧ b1 < 192
  ·have e : Go.Lib.decodeN n b0 b1 b2 b3 = (b0 % 32 * 64 + b1 % 64, 2) := by
    unfold Go.Lib.decodeN; rw [if_neg a1, if_pos (by omega), if_pos (by omega)]
   rw [e, if_neg (by simp), if_pos (by omega)]; rfl
  ·exact sAt2_2
 rw [if_neg (show ¬ (b0 : Int) < 224 by omega)]
 by_cases a4 : b0 < 240
 ·rw [if_pos (show (b0 : Int) < 240 by omega)]
  by_cases q : 3 ≤ n ∧ 128 ≤ b1 ∧ b1 < 192 ∧ 128 ≤ b2 ∧ b2 < 192
  ·by_cases q2 : 2048 ≤ b0 % 16 * 4096 + b1 % 64 * 64 + b2 % 64 ∧ ¬ (55296 ≤ b0 % 16 * 4096 + b1 % 64 * 64 + b2 % 64 ∧ b0 % 16 * 4096 + b1 % 64 * 64 + b2 % 64 ≤ 57343)
   ·have e : Go.Lib.decodeN n b0 b1 b2 b3 = (b0 % 16 * 4096 + b1 % 64 * 64 + b2 % 64, 3) := by
     unfold Go.Lib.decodeN; rw [if_neg a1, if_neg (by omega), if_pos (by omega), if_pos (by omega)]
    rw [e, if_neg (by simp), if_pos (by omega)]; rfl
   ·have e : Go.Lib.decodeN n b0 b1 b2 b3 = (65533, 1) := by
     unfold Go.Lib.decodeN; rw [if_neg a1, if_neg (by omega), if_pos (by omega), if_neg (by omega)]
    rw [e, if_pos ⟨rfl, rfl⟩, if_neg (by omega)]; rfl
  ·exact sAt2_2
 rw [if_neg (show ¬ (b0 : Int) < 240 by omega)]
 by_cases a5 : b0 < 245
 ·rw [if_pos (show (b0 : Int) < 245 by omega)]
  by_cases q : 4 ≤ n ∧ 128 ≤ b1 ∧ b1 < 192 ∧ 128 ≤ b2 ∧ b2 < 192 ∧ 128 ≤ b3 ∧ b3 < 192
  ·by_cases q2 : 65536 ≤ b0 % 8 * 262144 + b1 % 64 * 4096 + b2 % 64 * 64 + b3 % 64 ∧ b0 % 8 * 262144 + b1 % 64 * 4096 + b2 % 64 * 64 + b3 % 64 ≤ 1114111
   ·have e : Go.Lib.decodeN n b0 b1 b2 b3 = (b0 % 8 * 262144 + b1 % 64 * 4096 + b2 % 64 * 64 + b3 % 64, 4) := by
     unfold Go.Lib.decodeN; rw [if_neg a1, if_neg (by omega), if_neg (by omega), if_pos (by omega), if_pos (by omega)]
    rw [e, if_neg (by simp), if_pos (by omega)]; rfl
   ·have e : Go.Lib.decodeN n b0 b1 b2 b3 = (65533, 1) := by
     unfold Go.Lib.decodeN; rw [if_neg a1, if_neg (by omega), if_neg (by omega), if_pos (by omega), if_neg (by omega)]
    rw [e, if_pos ⟨rfl, rfl⟩, if_neg (by omega)]; rfl
  ·exact sAt2_2
 ·rw [if_neg (show ¬ (b0 : Int) < 245 by omega)]
  have e : Go.Lib.decodeN n b0 b1 b2 b3 = (65533, 1) := by
   unfold Go.Lib.decodeN
   rw [if_neg a1, if_neg (by omega), if_neg (by omega)]
   by_cases q : b0 / 8 = 30 ∧ (1 < n ∧ b1 / 64 = 2) ∧ (2 < n ∧ b2 / 64 = 2) ∧ (3 < n ∧ b3 / 64 = 2)
   ·rw [if_pos q, if_neg (by omega)]
   ·rw [if_neg q]
  rw [e, if_pos ⟨rfl, rfl⟩]; rfl
theorem bt_getD (x : ByteArray) (j : Nat) : bt x (j : Int) = ((x.data.toList.getD j 0).toNat : Int) := by
 unfold bt
 rw [Int.toNat_natCast]
 by_cases h : j < x.size
 ·have h2 : j < x.data.toList.length := by rw [data_length]; exact h
  rw [dif_pos h, List.getD_eq_getElem?_getD, List.getElem?_eq_getElem h2]; rfl
 ·have h2 : ¬ j < x.data.toList.length := by rw [data_length]; exact h
  rw [dif_neg h, List.getD_eq_getElem?_getD, List.getElem?_eq_none (by omega)]; rfl
theorem runeD_eq (x : ByteArray) (h : 0 < x.size) : (runeD x.data.toList : Int) = runeLen x.size (bt x 0) (bt x 1) (bt x 2) (bt x 3) := by
 unfold runeD
 rw [Go.Lib.decodeL_N]
 have := runeN x.data.toList.length (x.data.toList.getD 0 0).toNat (x.data.toList.getD 1 0).toNat (x.data.toList.getD 2 0).toNat (x.data.toList.getD 3 0).toNat (UInt8.toNat_lt _) (UInt8.toNat_lt _) (UInt8.toNat_lt _) (UInt8.toNat_lt _) (by rw [data_length]; exact h)
 rw [this, data_length, ← bt_getD x 0, ← bt_getD x 1, ← bt_getD x 2, ← bt_getD x 3]; rfl
def brk : Nat → List UInt8 → Nat
 | 0, _ => 0
 | n + 1, l => if l = [] then 0 else if runeD l = 0 then 0 else runeD l + brk n (l.drop (runeD l))
def brkL (l : List UInt8) : Nat := brk l.length l
theorem runeD_le (l : List UInt8) (hne : l ≠ []) : runeD l ≤ l.length := by
 unfold runeD; split
 ·omega
 ·exact Go.Lib.decodeL_le l hne
theorem brk_le : ∀ (n : Nat) (l : List UInt8), brk n l ≤ l.length := by
 intro n
 induction n with
 | zero => intro l; simp [brk]
 | succ n ih =>
  intro l
  rw [brk]
  split
  ·omega
  ·rename_i hne
   split
   ·omega
   ·have h1 := runeD_le l hne
    have h2 := ih (l.drop (runeD l))
    rw [List.length_drop] at h2
    omega
theorem brk_more : ∀ (n m : Nat) (l : List UInt8), l.length ≤ n → l.length ≤ m → brk n l = brk m l := by
 intro n
 induction n with
 | zero => intro m l h _; have : l = [] := List.length_eq_zero_iff.1 (by omega); subst this; cases m <;> simp [brk]
 | succ n ih =>
  intro m l h hm
  cases m with
  | zero => have : l = [] := List.length_eq_zero_iff.1 (by omega); subst this; simp [brk]
  | succ m =>
   rw [brk, brk]
   by_cases hne : l = []
   ·rw [if_pos hne, if_pos hne]
   ·rw [if_neg hne, if_neg hne]
    by_cases h0 : runeD l = 0
    ·rw [if_pos h0, if_pos h0]
    ·rw [if_neg h0, if_neg h0, ih m _ (by rw [List.length_drop]; omega) (by rw [List.length_drop]; omega)]
theorem brkL_step (l : List UInt8) (hne : l ≠ []) : brkL l = if runeD l = 0 then 0 else runeD l + brkL (l.drop (runeD l)) := by
 unfold brkL
 cases hl : l.length with
 | zero => exact absurd (List.length_eq_zero_iff.1 hl) hne
 | succ n =>
  rw [brk, if_neg hne]
  by_cases h0 : runeD l = 0
  ·rw [if_pos h0, if_pos h0]
  ·rw [if_neg h0, if_neg h0, brk_more n _ _ (by rw [List.length_drop]; omega) (Nat.le_refl _)]
theorem data_extract (x : ByteArray) (i : Nat) : (x.extract i x.size).data.toList = x.data.toList.drop i := by
 rw [ByteArray.data_extract, Array.toList_extract, List.extract_eq_take_drop]
 exact List.take_of_length_le (by rw [List.length_drop, data_length]; omega)
theorem broken_loop (x : ByteArray) (hx : x.size ≤ 1000000) (d : Nat) : ∀ i : Nat, i ≤ x.size → x.size - i ≤ d → Ev (fun k => parapetref9_Broken.l0 k x (i : Int)) ((i + brkL (x.data.toList.drop i) : Nat) : Int) := by
 induction d with
 | zero =>
  intro i hi hd
  have : x.data.toList.drop i = [] := List.drop_eq_nil_of_le (by rw [data_length]; omega)
  rw [this]
  refine Ev.step (f := fun _ => some (x.size : Int)) (fun k => ?_) ((Ev.now _).eq (by simp only [brkL, List.length_nil, brk]; omega))
  simp only [parapetref9_Broken.l0]
  rw [if_neg (by omega)]
 | succ d ih =>
  intro i hi hd
  by_cases hlt : i < x.size
  ·have hsz : (x.extract i x.size).size = x.size - i := by rw [← data_length, data_extract, List.length_drop, data_length]
   have hne : x.data.toList.drop i ≠ [] := by
    intro e; have := congrArg List.length e; rw [List.length_drop, data_length] at this; simp at this; omega
   have hr := rune_ev (x.extract i x.size) (by omega)
   rw [← runeD_eq _ (by omega), data_extract] at hr
   have hle := runeD_le _ hne
   rw [List.length_drop, data_length] at hle
   rw [brkL_step _ hne]
   refine Ev.step (fun k => ?_) (Ev.bind hr (f := fun k t => if t = 0 then some (i : Int) else parapetref9_Broken.l0 k x (wrap64 ((i : Int) + t))) ?_)
   ·simp only [parapetref9_Broken.l0]
    rw [if_pos (by omega), if_pos (by omega), if_pos (by omega), Int.toNat_natCast]
   ·by_cases h0 : runeD (x.data.toList.drop i) = 0
    ·simp only [h0, if_true]
     simp only [Int.natCast_zero, if_true]
     exact (Ev.now _).eq (by omega)
    ·have h1 : ¬ ((runeD (x.data.toList.drop i) : Nat) : Int) = 0 := by omega
     simp only [h1, h0, if_false]
     rw [w64 (by omega) (by omega), show (i : Int) + ((runeD (x.data.toList.drop i) : Nat) : Int) = ((i + runeD (x.data.toList.drop i) : Nat) : Int) from by omega]
     refine (ih _ (by omega) (by omega)).eq ?_
     rw [List.drop_drop]
     omega
  ·have : x.data.toList.drop i = [] := List.drop_eq_nil_of_le (by rw [data_length]; omega)
   rw [this]
   refine Ev.step (f := fun _ => some (x.size : Int)) (fun k => ?_) ((Ev.now _).eq (by simp only [brkL, List.length_nil, brk]; omega))
   simp only [parapetref9_Broken.l0]
   rw [if_neg (by omega)]
theorem broken_ev (x : ByteArray) (hx : x.size ≤ 1000000) : Ev (fun k => parapetref9_Broken.f k x) ((brkL x.data.toList : Nat) : Int) := by
 have := broken_loop x hx x.size 0 (by omega) (by omega)
 simpa [parapetref9_Broken.f] using this
end Go.Proofs.YtdlahgamdigkhaaDoor.Pu
namespace Go.Proofs.YtdlahgamdigkhaaDoor.Pu
open Go.RowKit Go.Proofs.YtdlahgamdigkhaaDoor.Pr Go.Proofs.YtdlahgamdigkhaaDoorW.PrintWords Go.Proofs.YtdlahgamdigkhaaDoor.Lx
def wrongN (l : List UInt8) : Nat := if brkL l = l.length then l.length + 1 else brkL l
def tokM (x : ByteArray) : List Tk × Int × Int :=
 if x.size > 3000 then ([], 2, 0) else
 match sm 0 .sk [] (bytesOf x) with
 | .bad j => ([], 8, min (wrongN x.data.toList : Int) (j : Int))
 | .good ts => if (wrongN x.data.toList : Int) ≤ (x.size : Int) then ([], 8, (wrongN x.data.toList : Int)) else (ts, 0, 0)
def rs : Nat → St → List Tk → List Int → One
 | _, st, ts, [] => .go st ts
 | i, st, ts, c :: l => match step i c st ts with
  | .bad j => .bad j
  | .go st' ts' => rs (i + 1) st' ts' l
def ends (n : Nat) : One → Out
 | .bad j => .bad j
 | .go st ts => fin n st ts
theorem sm_rs : ∀ l i st ts, sm i st ts l = ends (i + l.length) (rs i st ts l) := by
 intro l
 induction l with
 | nil => intro i st ts; rfl
 | cons c l ih =>
  intro i st ts
  rw [sm, rs]
  cases step i c st ts with
  | bad j => rfl
  | go st' ts' =>
   simp only
   rw [ih, List.length_cons, show i + 1 + l.length = i + (l.length + 1) by omega]
theorem rs_app : ∀ l1 i st ts l2, rs i st ts (l1 ++ l2) = (match rs i st ts l1 with
  | .bad j => .bad j
  | .go st' ts' => rs (i + l1.length) st' ts' l2) := by
 intro l1
 induction l1 with
 | nil => intro i st ts l2; rfl
 | cons c l ih =>
  intro i st ts l2
  rw [List.cons_append, rs, rs]
  cases step i c st ts with
  | bad j => rfl
  | go st' ts' =>
   simp only
   rw [ih, List.length_cons, show i + 1 + l.length = i + (l.length + 1) by omega]
theorem rs_app_go {l1 : List Int} {i : Nat} {st : St} {ts : List Tk} {st' : St} {ts' : List Tk} (h : rs i st ts l1 = .go st' ts') (l2 : List Int) : rs i st ts (l1 ++ l2) = rs (i + l1.length) st' ts' l2 := by
 rw [rs_app, h]
theorem rs_app_bad {l1 : List Int} {i : Nat} {st : St} {ts : List Tk} {j : Nat} (h : rs i st ts l1 = .bad j) (l2 : List Int) : rs i st ts (l1 ++ l2) = .bad j := by
 rw [rs_app, h]
def escL (l : List Int) : List Int := l.flatMap fun c => if c = 34 ∨ c = 92 then [92, c] else [c]
theorem escL_nil : escL [] = [] := rfl
theorem escL_cons (c : Int) (l : List Int) : escL (c :: l) = (if c = 34 ∨ c = 92 then [92, c] else [c]) ++ escL l := by simp [escL]
theorem escL_app (l m : List Int) : escL (l ++ m) = escL l ++ escL m := by simp [escL]
def wof (t : Tk) : List Int := if t.f0 = 2 then 34 :: (escL (bytesOf t.f2) ++ [34]) else bytesOf t.f2
def okT (t : Tk) : Prop :=
 (t.f0 = 1 ∧ ∃ c l, bytesOf t.f2 = c :: l ∧ pBlank c = false ∧ c ≠ 35 ∧ pLetter c = true ∧ ∀ x ∈ l, pWord x = true) ∨
 (t.f0 = 2 ∧ ∀ x ∈ bytesOf t.f2, x ≠ 10) ∨
 (∃ c, (c = 40 ∨ c = 41 ∨ c = 59) ∧ t.f0 = opIdx c ∧ bytesOf t.f2 = [c])
def Placed (bs : List Int) : Nat → List Tk → Prop
 | _, [] => True
 | e, t :: r => okT t ∧ ∃ a : Nat, t.f1 = (a : Int) ∧ e ≤ a ∧ (∃ rest, bs.drop a = wof t ++ rest) ∧ Placed bs (a + (wof t).length) r
theorem Placed.weak {bs : List Int} : ∀ {e e' : Nat} {ts : List Tk}, Placed bs e ts → e' ≤ e → Placed bs e' ts
 | _, _, [], _, _ => trivial
 | _, _, _ :: _, ⟨h1, a, h2, h3, h4, h5⟩, h => ⟨h1, a, h2, Nat.le_trans h h3, h4, h5⟩
def Rng (l : List Int) : Prop := ∀ x ∈ l, 0 ≤ x ∧ x ≤ 255
theorem opIdx_ne (c : Int) : opIdx c ≠ 2 := by unfold opIdx; repeat' split
                                               all_goals omega
def Inv (bs : List Int) (i : Nat) (l : List Int) : St → Prop
 | .sk => True
 | .nt => True
 | .wd a acc => bs.drop a = acc ++ l ∧ a + acc.length = i ∧ Rng acc ∧ ∃ c r, acc = c :: r ∧ pBlank c = false ∧ c ≠ 35 ∧ pLetter c = true ∧ ∀ x ∈ r, pWord x = true
 | .qt a acc => bs.drop a = (34 :: escL acc) ++ l ∧ a + 1 + (escL acc).length = i ∧ Rng acc ∧ ∀ x ∈ acc, x ≠ 10
 | .es a p acc => bs.drop a = (34 :: escL acc) ++ 92 :: l ∧ a + 1 + (escL acc).length + 1 = i ∧ Rng acc ∧ ∀ x ∈ acc, x ≠ 10
def begins (i : Nat) : St → Nat
 | .sk => i
 | .nt => i
 | .wd a _ => a
 | .qt a _ => a
 | .es a _ _ => a
theorem sm_placed (bs : List Int) : ∀ l i st ts out, bs.drop i = l → Rng l → Inv bs i l st → sm i st ts l = .good out → ∃ new, out = ts ++ new ∧ Placed bs (begins i st) new := by
 intro l
 induction l with
 | nil =>
  intro i st ts out hd hr hI e
  rw [sm] at e
  cases st with
  | sk => simp only [fin, Out.good.injEq] at e; exact ⟨[], by simp [e], trivial⟩
  | nt => simp only [fin, Out.good.injEq] at e; exact ⟨[], by simp [e], trivial⟩
  | wd a acc =>
   simp only [fin, Out.good.injEq] at e
   obtain ⟨h1, h2, h3, c, r, h4, h5⟩ := hI
   have hb := bytesOf_str acc h3
   have hw : wof (⟨1, a, strOfNums acc⟩ : Tk) = acc := by unfold wof; rw [if_neg (by simp)]; exact hb
   refine ⟨[⟨1, a, strOfNums acc⟩], e.symm, .inl ⟨rfl, c, r, by rw [hb, h4], h5⟩, a, rfl, Nat.le_refl _, ⟨[], by rw [hw]; exact h1⟩, trivial⟩
  | qt a acc => cases e
  | es a p acc => cases e
 | cons c l ih =>
  intro i st ts out hd hr hI e
  have hd1 : bs.drop (i + 1) = l := by
   rw [← List.drop_drop, hd]; rfl
  have hr1 : Rng l := fun x hx => hr x (List.mem_cons_of_mem _ hx)
  have hrc := hr c List.mem_cons_self
  rw [sm] at e
  -- from between tokens
  have base : ∀ ts, (match st1 i c ts with | .bad j => Out.bad j | .go st' ts' => sm (i + 1) st' ts' l) = .good out → ∃ new, out = ts ++ new ∧ Placed bs i new := by
   intro ts e
   unfold st1 at e
   by_cases p1 : pBlank c = true
   ·rw [if_pos p1] at e
    obtain ⟨new, h1, h2⟩ := ih (i + 1) .sk ts out hd1 hr1 trivial e
    exact ⟨new, h1, h2.weak (Nat.le_succ _)⟩
   rw [if_neg p1] at e
   have p1' : pBlank c = false := by cases h : pBlank c with
    | true => exact absurd h p1
    | false => rfl
   by_cases p2 : c = 35
   ·rw [if_pos p2] at e
    obtain ⟨new, h1, h2⟩ := ih (i + 1) .nt ts out hd1 hr1 trivial e
    exact ⟨new, h1, h2.weak (Nat.le_succ _)⟩
   rw [if_neg p2] at e
   by_cases p3 : pLetter c = true
   ·rw [if_pos p3] at e
    obtain ⟨new, h1, h2⟩ := ih (i + 1) (.wd i [c]) ts out hd1 hr1 ⟨hd, rfl, by intro x hx; simp at hx; subst hx; exact hrc, c, [], rfl, p1', p2, p3, by simp⟩ e
    exact ⟨new, h1, h2⟩
   rw [if_neg p3] at e
   by_cases p4 : c = 34
   ·rw [if_pos p4] at e
    obtain ⟨new, h1, h2⟩ := ih (i + 1) (.qt i []) ts out hd1 hr1 ⟨by rw [hd, p4]; rfl, rfl, (by intro x hx; cases hx), by simp⟩ e
    exact ⟨new, h1, h2⟩
   rw [if_neg p4] at e
   by_cases p5 : c = 40 ∨ c = 41 ∨ c = 59
   ·rw [if_pos p5] at e
    obtain ⟨new, h1, h2⟩ := ih (i + 1) .sk _ out hd1 hr1 trivial e
    have hb : bytesOf (strOfNums [c]) = [c] := bytesOf_str [c] (by intro x hx; simp at hx; subst hx; exact hrc)
    have hw : wof (⟨opIdx c, i, strOfNums [c]⟩ : Tk) = [c] := by unfold wof; rw [if_neg (opIdx_ne c)]; exact hb
    refine ⟨⟨opIdx c, i, strOfNums [c]⟩ :: new, by rw [h1]; simp, .inr (.inr ⟨c, p5, rfl, hb⟩), i, rfl, Nat.le_refl _, ⟨l, by rw [hw]; exact hd⟩, ?_⟩
    rw [hw]; exact h2
   ·rw [if_neg p5] at e; cases e
  cases st with
  | sk => exact base ts e
  | nt =>
   simp only [step] at e
   by_cases p : c = 10
   ·rw [if_pos p] at e
    obtain ⟨new, h1, h2⟩ := ih (i + 1) .sk ts out hd1 hr1 trivial e
    exact ⟨new, h1, h2.weak (Nat.le_succ _)⟩
   ·rw [if_neg p] at e
    obtain ⟨new, h1, h2⟩ := ih (i + 1) .nt ts out hd1 hr1 trivial e
    exact ⟨new, h1, h2.weak (Nat.le_succ _)⟩
  | wd a acc =>
   obtain ⟨h1, h2, h3, c0, r, h4, h5, h6, h7, h8⟩ := hI
   simp only [step] at e
   by_cases p : pWord c = true
   ·rw [if_pos p] at e
    refine ih (i + 1) (.wd a (acc ++ [c])) ts out hd1 hr1 ⟨by rw [h1]; simp, by rw [List.length_append, List.length_singleton]; omega, ?_, c0, r ++ [c], by rw [h4]; rfl, h5, h6, h7, ?_⟩ e
    ·intro x hx; rcases List.mem_append.1 hx with hx | hx
     ·exact h3 x hx
     ·simp at hx; subst hx; exact hrc
    ·intro x hx; rcases List.mem_append.1 hx with hx | hx
     ·exact h8 x hx
     ·simp at hx; subst hx; exact p
   ·rw [if_neg p] at e
    obtain ⟨new, hn1, hn2⟩ := base _ e
    have hb := bytesOf_str acc h3
    have hw : wof (⟨1, a, strOfNums acc⟩ : Tk) = acc := by unfold wof; rw [if_neg (by simp)]; exact hb
    refine ⟨⟨1, a, strOfNums acc⟩ :: new, by rw [hn1]; simp, .inl ⟨rfl, c0, r, by rw [hb, h4], h5, h6, h7, h8⟩, a, rfl, Nat.le_refl _, ⟨c :: l, by rw [hw]; exact h1⟩, ?_⟩
    rw [hw, h2]; exact hn2
  | qt a acc =>
   obtain ⟨h1, h2, h3, h4⟩ := hI
   simp only [step] at e
   by_cases p1 : c = 34
   ·rw [if_pos p1] at e
    obtain ⟨new, hn1, hn2⟩ := ih (i + 1) .sk _ out hd1 hr1 trivial e
    have hb := bytesOf_str acc h3
    have hw : wof (⟨2, a, strOfNums acc⟩ : Tk) = 34 :: (escL acc ++ [34]) := by unfold wof; rw [if_pos rfl]; show 34 :: (escL (bytesOf (strOfNums acc)) ++ [34]) = _; rw [hb]
    refine ⟨⟨2, a, strOfNums acc⟩ :: new, by rw [hn1]; simp, .inr (.inl ⟨rfl, by show ∀ x ∈ bytesOf (strOfNums acc), x ≠ 10; rw [hb]; exact h4⟩), a, rfl, Nat.le_refl _, ⟨l, by rw [hw, h1, p1]; simp⟩, ?_⟩
    rw [hw]
    have : a + (34 :: (escL acc ++ [34])).length = i + 1 := by simp; omega
    rw [this]; exact hn2
   ·rw [if_neg p1] at e
    by_cases p2 : c = 10
    ·rw [if_pos p2] at e; cases e
    ·rw [if_neg p2] at e
     by_cases p3 : c = 92
     ·rw [if_pos p3] at e
      exact ih (i + 1) (.es a i acc) ts out hd1 hr1 ⟨by rw [h1, p3], by omega, h3, h4⟩ e
     ·rw [if_neg p3] at e
      have he : escL (acc ++ [c]) = escL acc ++ [c] := by rw [escL_app, escL_cons, escL_nil, if_neg (by omega)]; rfl
      refine ih (i + 1) (.qt a (acc ++ [c])) ts out hd1 hr1 ⟨by rw [h1, he]; simp, by rw [he, List.length_append, List.length_singleton]; omega, ?_, ?_⟩ e
      ·intro x hx; rcases List.mem_append.1 hx with hx | hx
       ·exact h3 x hx
       ·simp at hx; subst hx; exact hrc
      ·intro x hx; rcases List.mem_append.1 hx with hx | hx
       ·exact h4 x hx
       ·simp at hx; subst hx; exact p2
  | es a p acc =>
   obtain ⟨h1, h2, h3, h4⟩ := hI
   simp only [step] at e
   by_cases p1 : c = 34 ∨ c = 92
   ·rw [if_pos p1] at e
    have he : escL (acc ++ [c]) = escL acc ++ [92, c] := by rw [escL_app, escL_cons, escL_nil, if_pos p1]; rfl
    refine ih (i + 1) (.qt a (acc ++ [c])) ts out hd1 hr1 ⟨by rw [h1, he]; simp, by rw [he, List.length_append]; simp; omega, ?_, ?_⟩ e
    ·intro x hx; rcases List.mem_append.1 hx with hx | hx
     ·exact h3 x hx
     ·simp at hx; subst hx; exact hrc
    ·intro x hx; rcases List.mem_append.1 hx with hx | hx
     ·exact h4 x hx
     ·simp at hx; subst hx; omega
   ·rw [if_neg p1] at e; cases e
theorem placed (s : ByteArray) (ts : List Tk) (h : sm 0 .sk [] (bytesOf s) = .good ts) : Placed (bytesOf s) 0 ts := by
 obtain ⟨new, h1, h2⟩ := sm_placed (bytesOf s) (bytesOf s) 0 .sk [] ts rfl (bytesOf_range s) trivial h
 rw [h1]; exact h2
theorem runeD_ascii (c : UInt8) (l : List UInt8) (h : c.toNat < 128) : runeD (c :: l) = 1 := by
 have := runeD_eq ⟨(c :: l).toArray⟩ (by simp [ByteArray.size])
 have e : bt ⟨(c :: l).toArray⟩ 0 = (c.toNat : Int) := by rw [show (0 : Int) = ((0 : Nat) : Int) from rfl, bt_getD]; rfl
 rw [e] at this
 unfold runeLen at this
 rw [if_pos (by omega)] at this
 have e2 : runeD (c :: l) = runeD (⟨(c :: l).toArray⟩ : ByteArray).data.toList := rfl
 rw [e2]; omega
theorem brkL_ascii (c : UInt8) (l : List UInt8) (h : c.toNat < 128) : brkL (c :: l) = 1 + brkL l := by
 rw [brkL_step _ (by simp), runeD_ascii c l h, if_neg (by omega)]
 rfl
theorem brkL_all_ascii : ∀ l : List UInt8, (∀ c ∈ l, c.toNat < 128) → brkL l = l.length := by
 intro l
 induction l with
 | nil => intro _; rfl
 | cons c l ih =>
  intro h
  rw [brkL_ascii c l (h c List.mem_cons_self), ih (fun x hx => h x (List.mem_cons_of_mem _ hx)), List.length_cons]; omega
theorem data_str (xs : List Int) : (strOfNums xs).data.toList = xs.map fun n => n.toNat.toUInt8 := by rw [strOfNums_data]
def g (l : List UInt8) (j : Nat) : Int := ((l.getD j 0).toNat : Int)
theorem runeD_list (l : List UInt8) (h : l ≠ []) : (runeD l : Int) = runeLen l.length (g l 0) (g l 1) (g l 2) (g l 3) := by
 have hp : 0 < l.length := List.length_pos_iff.2 h
 have := runeD_eq ⟨l.toArray⟩ (by simpa [ByteArray.size] using hp)
 have e0 := bt_getD ⟨l.toArray⟩ 0
 have e1 := bt_getD ⟨l.toArray⟩ 1
 have e2 := bt_getD ⟨l.toArray⟩ 2
 have e3 := bt_getD ⟨l.toArray⟩ 3
 have hs : ((ByteArray.mk l.toArray).size : Int) = l.length := by simp [ByteArray.size]
 rw [show (1 : Int) = ((1 : Nat) : Int) from rfl, show (2 : Int) = ((2 : Nat) : Int) from rfl, show (3 : Int) = ((3 : Nat) : Int) from rfl, show (0 : Int) = ((0 : Nat) : Int) from rfl, e0, e1, e2, e3, hs] at this
 exact this
theorem g_out (l : List UInt8) (j : Nat) (h : l.length ≤ j) : g l j = 0 := by
 unfold g
 rw [List.getD_eq_getElem?_getD, List.getElem?_eq_none h]; rfl
theorem g_left (A B : List UInt8) (j : Nat) (h : j < A.length) : g (A ++ B) j = g A j := by
 unfold g
 rw [List.getD_eq_getElem?_getD, List.getD_eq_getElem?_getD, List.getElem?_append_left h]
theorem g_at (A : List UInt8) (c : UInt8) (B : List UInt8) : g (A ++ c :: B) A.length = (c.toNat : Int) := by
 unfold g
 rw [List.getD_eq_getElem?_getD, List.getElem?_append_right (Nat.le_refl _), Nat.sub_self]; rfl
theorem runeD_ext (A B : List UInt8) (hA : A ≠ []) (h : runeD A ≠ 0) : runeD (A ++ B) = runeD A := by
 have hp : 0 < A.length := List.length_pos_iff.2 hA
 have e1 := runeD_list A hA
 have e2 := runeD_list (A ++ B) (by simp [hA])
 rw [List.length_append] at e2
 have hb := List.length_pos_iff.2 hA
 have h0 := g_left A B 0
 have h1 := g_left A B 1
 have h2 := g_left A B 2
 have h3 := g_left A B 3
 have o1 := g_out A 1
 have o2 := g_out A 2
 have o3 := g_out A 3
 generalize g (A ++ B) 0 = y0 at *
 generalize g (A ++ B) 1 = y1 at *
 generalize g (A ++ B) 2 = y2 at *
 generalize g (A ++ B) 3 = y3 at *
 generalize g A 0 = x0 at *
 generalize g A 1 = x1 at *
 generalize g A 2 = x2 at *
 generalize g A 3 = x3 at *
 generalize runeD (A ++ B) = r2 at *
 generalize runeD A = r1 at *
 generalize A.length = n at *
 generalize B.length = m at *
 have h0' := h0 hp
 subst h0'
 by_cases n1 : 1 < n
 ·have h1' := h1 n1
  subst h1'
  by_cases n2 : 2 < n
  ·have h2' := h2 n2
   subst h2'
   by_cases n3 : 3 < n
   ·have h3' := h3 n3
    subst h3'
    unfold runeLen at e1 e2
    (repeat' split at e1) <;> (repeat' split at e2) <;> omega
   ·have o := o3 (by omega)
    subst o
    unfold runeLen at e1 e2
    (repeat' split at e1) <;> (repeat' split at e2) <;> omega
  ·have o := o2 (by omega)
   subst o
   unfold runeLen at e1 e2
   (repeat' split at e1) <;> (repeat' split at e2) <;> omega
 ·have o := o1 (by omega)
  subst o
  unfold runeLen at e1 e2
  (repeat' split at e1) <;> (repeat' split at e2) <;> omega
theorem runeD_cut (A : List UInt8) (c : UInt8) (B : List UInt8) (hA : A ≠ []) (hc : c.toNat < 128) : runeD (A ++ c :: B) = runeD A := by
 have hp : 0 < A.length := List.length_pos_iff.2 hA
 by_cases h : runeD A ≠ 0
 ·exact runeD_ext A _ hA h
 ·have h : runeD A = 0 := by omega
  have e1 := runeD_list A hA
  have e2 := runeD_list (A ++ c :: B) (by simp [hA])
  rw [List.length_append, List.length_cons] at e2
  have h0 := g_left A (c :: B) 0
  have h1 := g_left A (c :: B) 1
  have h2 := g_left A (c :: B) 2
  have h3 := g_left A (c :: B) 3
  have ha := g_at A c B
  by_cases n1 : A.length = 1
  ·rw [n1] at ha e1 e2 h0
   rw [h0 (by omega), ha] at e2
   generalize g A 0 = x0 at *
   unfold runeLen at e1 e2
   (repeat' split at e1) <;> (repeat' split at e2) <;> omega
  ·by_cases n2 : A.length = 2
   ·rw [n2] at ha e1 e2 h0 h1
    rw [h0 (by omega), h1 (by omega), ha] at e2
    generalize g A 0 = x0 at *
    generalize g A 1 = x1 at *
    unfold runeLen at e1 e2
    (repeat' split at e1) <;> (repeat' split at e2) <;> omega
   ·by_cases n3 : A.length = 3
    ·rw [n3] at ha e1 e2 h0 h1 h2
     rw [h0 (by omega), h1 (by omega), h2 (by omega), ha] at e2
     generalize g A 0 = x0 at *
     generalize g A 1 = x1 at *
     generalize g A 2 = x2 at *
     unfold runeLen at e1 e2
     (repeat' split at e1) <;> (repeat' split at e2) <;> omega
    ·rw [h0 (by omega), h1 (by omega), h2 (by omega), h3 (by omega)] at e2
     generalize g A 0 = x0 at *
     generalize g A 1 = x1 at *
     generalize g A 2 = x2 at *
     generalize g A 3 = x3 at *
     unfold runeLen at e1 e2
     (repeat' split at e1) <;> (repeat' split at e2) <;> omega
theorem brkL_le (l : List UInt8) : brkL l ≤ l.length := brk_le _ _
theorem brkL_cut (c : UInt8) (B : List UInt8) (hc : c.toNat < 128) : ∀ n (A : List UInt8), A.length ≤ n → brkL (A ++ c :: B) = if brkL A = A.length then A.length + 1 + brkL B else brkL A := by
 intro n
 induction n with
 | zero =>
  intro A h
  have : A = [] := List.length_eq_zero_iff.1 (by omega)
  subst this
  rw [List.nil_append, brkL_ascii c B hc, if_pos (show brkL [] = ([] : List UInt8).length from rfl)]; simp
 | succ n ih =>
  intro A h
  by_cases hA : A = []
  ·subst hA
   rw [List.nil_append, brkL_ascii c B hc, if_pos (show brkL [] = ([] : List UInt8).length from rfl)]; simp
  ·have hp : 0 < A.length := List.length_pos_iff.2 hA
   rw [brkL_step (A ++ c :: B) (by simp), runeD_cut A c B hA hc, brkL_step A hA]
   by_cases h0 : runeD A = 0
   ·rw [if_pos h0, if_pos h0, if_neg (by omega)]
   ·have hle := runeD_le A hA
    rw [if_neg h0, if_neg h0, List.drop_append_of_le_length hle, ih (A.drop (runeD A)) (by rw [List.length_drop]; omega), List.length_drop]
    by_cases q : brkL (A.drop (runeD A)) = A.length - runeD A
    ·rw [if_pos q, if_pos (by omega)]; omega
    ·rw [if_neg q, if_neg (by omega)]
def toU (l : List Int) : List UInt8 := l.map fun n => n.toNat.toUInt8
def V (l : List Int) : Prop := brkL (toU l) = l.length
theorem toU_app (a b : List Int) : toU (a ++ b) = toU a ++ toU b := by simp [toU]
theorem toU_len (l : List Int) : (toU l).length = l.length := by simp [toU]
theorem toU_bytes (x : ByteArray) : toU (bytesOf x) = x.data.toList := by
 have := congrArg (fun y : ByteArray => y.data.toList) (str_bytesOf x)
 simp only [data_str] at this
 exact this
theorem V_bytes (x : ByteArray) : V (bytesOf x) ↔ brkL x.data.toList = x.size := by
 unfold V; rw [toU_bytes, bytesOf_length]
theorem asc {c : Int} (h0 : 0 ≤ c) (h1 : c < 128) : (c.toNat.toUInt8).toNat < 128 := by
 simp; omega
theorem V_nil : V [] := rfl
theorem V_split (A : List Int) (c : Int) (B : List Int) (h0 : 0 ≤ c) (h1 : c < 128) : V (A ++ c :: B) ↔ (V A ∧ V B) := by
 unfold V
 rw [toU_app, show toU (c :: B) = c.toNat.toUInt8 :: toU B from rfl, brkL_cut _ _ (asc h0 h1) _ _ (Nat.le_refl _), toU_len, List.length_append, List.length_cons]
 have hA := brkL_le (toU A)
 have hB := brkL_le (toU B)
 rw [toU_len] at hA hB
 by_cases q : brkL (toU A) = A.length
 ·rw [if_pos q]; constructor
  ·intro h; exact ⟨q, by omega⟩
  ·intro h; omega
 ·rw [if_neg q]; constructor
  ·intro h; omega
  ·intro h; exact absurd h.1 q
theorem V_ascii (l : List Int) (h : ∀ c ∈ l, 0 ≤ c ∧ c < 128) : V l := by
 unfold V
 rw [brkL_all_ascii, toU_len]
 intro c hc
 obtain ⟨n, hn, rfl⟩ := List.mem_map.1 hc
 exact asc (h n hn).1 (h n hn).2
theorem escL_ge (l : List Int) : l.length ≤ (escL l).length := by
 induction l with
 | nil => simp [escL]
 | cons c l ih =>
  rw [escL_cons, List.length_append, List.length_cons]
  split
  all_goals simp
  all_goals omega
theorem wof_pos {t : Tk} (h : okT t) : 1 ≤ (wof t).length := by
 unfold wof
 rcases h with ⟨h1, c, l, h2, _⟩ | ⟨h1, _⟩ | ⟨c, _, h1, h2⟩
 ·rw [if_neg (by omega), h2]; simp
 ·rw [if_pos h1]; simp
 ·rw [if_neg (by rw [h1]; exact opIdx_ne c), h2]; simp
theorem piece {x : ByteArray} {a : Nat} {w rest : List Int} (h : (bytesOf x).drop a = w ++ rest) : x.extract a (a + w.length) = strOfNums w ∧ (w ≠ [] → a + w.length ≤ x.size) := by
 constructor
 ·refine (strOfNums_inj_bytes _ _ ?_).symm
  rw [bytesOf_ext, List.drop_take, h, show a + w.length - a = w.length by omega, List.take_left]
 ·intro hw
  have := congrArg List.length h
  rw [List.length_drop, bytesOf_length, List.length_append] at this
  have := List.length_pos_iff.2 hw
  omega
theorem Placed.len {bs : List Int} : ∀ {e : Nat} {ts : List Tk}, Placed bs e ts → e ≤ bs.length → ts.length + e ≤ bs.length
 | e, [], _, h => by simpa using h
 | e, t :: r, ⟨hok, a, ha, hea, ⟨rest, hr⟩, hp⟩, h => by
  have h1 := wof_pos hok
  have h2 := congrArg List.length hr
  rw [List.length_drop, List.length_append] at h2
  have := Placed.len hp (by omega)
  rw [List.length_cons]; omega
theorem tokM_cases (x : ByteArray) : (∃ ts, tokM x = (ts, 0, 0) ∧ sm 0 .sk [] (bytesOf x) = .good ts ∧ V (bytesOf x) ∧ x.size ≤ 3000) ∨ (∃ j : Nat, tokM x = ([], 8, (j : Int)) ∧ j ≤ x.size) ∨ (tokM x = ([], 2, 0) ∧ x.size > 3000) := by
 unfold tokM
 by_cases h : x.size > 3000
 ·rw [if_pos h]; exact .inr (.inr ⟨rfl, h⟩)
 ·rw [if_neg h]
  have hw : (wrongN x.data.toList ≤ x.size) ∨ (wrongN x.data.toList = x.size + 1 ∧ brkL x.data.toList = x.size) := by
   unfold wrongN
   rw [data_length]
   split
   ·rename_i q; exact .inr ⟨rfl, q⟩
   ·have := brkL_le x.data.toList; rw [data_length] at this; exact .inl this
  cases hs : sm 0 .sk [] (bytesOf x) with
  | bad j =>
   have hj : j ≤ x.size := sm_bad_le x x.size 0 .sk [] j (by omega) (by omega) (fun _ _ _ e => by cases e) hs
   refine .inr (.inl ⟨min (wrongN x.data.toList) j, ?_, by omega⟩)
   simp only; congr 2; omega
  | good ts =>
   simp only
   rcases hw with hw | ⟨hw, hv⟩
   ·rw [if_pos (by omega)]; exact .inr (.inl ⟨wrongN x.data.toList, rfl, hw⟩)
   ·rw [if_neg (by omega)]; exact .inl ⟨ts, rfl, rfl, (V_bytes x).2 hv, by omega⟩
def key (t : Tk) : Int × ByteArray := (t.f0, t.f2)
theorem Placed.all {bs : List Int} : ∀ {e : Nat} {ts : List Tk}, Placed bs e ts → ∀ t ∈ ts, okT t ∧ ∃ (a : Nat) (rest : List Int), bs.drop a = wof t ++ rest
 | _, [], _, t, h => by cases h
 | _, x :: r, ⟨hok, a, _, _, ⟨rest, hr⟩, hp⟩, t, h => by
  rcases List.mem_cons.1 h with rfl | h
  ·exact ⟨hok, a, rest, hr⟩
  ·exact Placed.all hp t h
theorem word_asc : ∀ c : Fin 256, pWord (c.val : Int) = true → (c.val : Int) < 128 := by decide +kernel
theorem word_lt {x : Int} (h0 : 0 ≤ x ∧ x ≤ 255) (h : pWord x = true) : 0 ≤ x ∧ x < 128 := by
 obtain ⟨c, hc⟩ : ∃ c : Fin 256, (c.val : Int) = x := ⟨⟨x.toNat, by omega⟩, by simp; omega⟩
 subst hc
 exact ⟨h0.1, word_asc c h⟩
theorem V_wof {bs : List Int} (hv : V bs) {t : Tk} (h : okT t) {a : Nat} {rest : List Int} (hd : bs.drop a = wof t ++ rest) : V (wof t) := by
 have hrg := bytesOf_range t.f2
 unfold wof at hd ⊢
 rcases h with ⟨h1, c, l, h2, h3, h4, h5, h6⟩ | ⟨h1, h2⟩ | ⟨c, hc, h1, h2⟩
 ·rw [if_neg (by omega), h2]
  rw [h2] at hrg
  apply V_ascii
  intro x hx
  have hr := hrg x hx
  rcases List.mem_cons.1 hx with rfl | hx
  ·obtain ⟨q, hq⟩ : ∃ q : Fin 256, (q.val : Int) = x := ⟨⟨x.toNat, by omega⟩, by simp; omega⟩
   have := letter_word q (by rw [hq]; exact h5)
   rw [hq] at this
   exact word_lt hr this
  ·exact word_lt hr (h6 x hx)
 ·rw [if_pos h1] at hd ⊢
  have e : bs = bs.take a ++ 34 :: (escL (bytesOf t.f2) ++ 34 :: rest) := by
   have e0 := (List.take_append_drop a bs).symm
   rw [hd] at e0
   exact e0.trans (by simp)
  rw [e] at hv
  have v1 := ((V_split _ 34 _ (by omega) (by omega)).1 hv).2
  have v2 := ((V_split _ 34 _ (by omega) (by omega)).1 v1).1
  exact (V_split [] 34 _ (by omega) (by omega)).2 ⟨V_nil, (V_split _ 34 [] (by omega) (by omega)).2 ⟨v2, V_nil⟩⟩
 ·rw [if_neg (by rw [h1]; exact opIdx_ne c), h2]
  apply V_ascii
  intro x hx
  simp at hx
  omega
theorem w10 : pBlank 10 = true ∧ pWord 10 = false := by decide +kernel
end Go.Proofs.YtdlahgamdigkhaaDoor.Pu
