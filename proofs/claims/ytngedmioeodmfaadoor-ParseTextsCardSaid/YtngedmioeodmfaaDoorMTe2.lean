/- 14 texts of the proof, put together, less what is not used; what a tool printed stands among them. -/
import Derived.Shelf.Strings.Builder1
import Derived.Shelf.Strings.Builder2
import Derived.Shelf.Strings.OnBuilder
import Derived.Shelf.Small.Strs
import Derived.Shelf.Strings.Search1
import Derived.Shelf.Unicode.DecodeSlow
import Derived.Shelf.Unicode.DecodeAny
import Derived.Shelf.Unicode.ValidAny
import Derived.Test.YtngedmioeodmfaaDoorProg
import Derived.Below
import Derived.Test.YtngedmioeodmfaaDoorRows
import Derived.PinnedBridge
import Derived.Lib.LaidIn
import Derived.Lib.LaidU8T
import Derived.Deep.Draws
import Derived.Deep.AppendLies
import Derived.Maps.AppendAt
import Derived.OwnWalk
import Derived.Laws.BytesArg
import Derived.Laws.MakeOwn
import Derived.Laws.OwnMore
import Derived.Deep.OwnRows
import Derived.Tactics
import Derived.Lib.ConvBytes
import Derived.Laws.Slices
import Derived.WalkKit
import Derived.KernelRfl
import Derived.RowKit3
import Derived.Deep.LoopGhost
import Derived.Deep.QuietTactic
import Derived.BigQuiet
import Derived.WideLaws
import Derived.Deep.DeepCutAuto
import Derived.Deep.CutBlock
import Derived.Deep.RegionHeld3
import Derived.Laws.Rows
import Derived.Lib.AppendStr
import Derived.ArgAppend
import Derived.Laws.IdiomCopy
import Derived.OrdersHeld
import Derived.Laws.BitsLemmas
import Derived.RowKit
import Derived.Outline
import Derived.Deep.DeepMust
import Derived.StillTailTactics
import Derived.Deep.RegionLaw
import Derived.IntWalk
import Derived.Test.YtngedmioeodmfaaDoorMTe1
set_option maxRecDepth 100000
namespace Go.Proofs
open Go.RowKit
theorem nTe2_ {p_ : Prop} (h_ : p_ := by
 simp only [Act.put, List.setIfInBounds_toArray, List.set_cons_zero, List.set_cons_succ, i64_w, i32_w]
 rfl) : p_ := h_
theorem sTe2_0 {p_ : Prop} (h_ : p_ := by
 go_enter Tryd.func61, Tryd.ntmps61
 go_wp2_with (first | ((with_reducible refine gate_callee (f := 60) rfl ?_); refine goesL_ (some 4) rfl rfl Tryd.func60 (by kernel_rfl) rfl #[.int .u8 a0] rfl (by (try simp only [List.map_toArray, List.map_cons, List.map_nil]); first | done | rfl | (simp only [List.length_drop, List.length_take]; rfl)) ?_; (with_reducible refine (lex_letter.calls a0 false _ A2.out).mono ?_); rintro e w' ⟨rfl, ⟨nd, rfl⟩⟩; refine ⟨_, rfl, ?_⟩))
 go_ret
 exact ⟨by first | rfl | (simp; done) | (simp [*]; done), by repeat (first | exact Drawn0.refl _ | apply Drawn0.step)⟩) : p_ := h_
theorem sTe2_1 {p_ : Prop} (h_ : p_ := by
 intro w'
 go_simp
 with_reducible rfl) : p_ := h_
theorem sTe2_2 {p_ : Prop} (h_ : p_ := by
 have e1 : decide (s.size ≤ i) = true := decide_eq_true (by omega)
 go_upto_region 2 with (fail)
 go_quiet ((go_at_call 36; exact quiet0 (end_calls s i L g _ (blk_drewN HB.out _))))
 go_wp2
 have hi0' := Hi0.out
 have hz1 : (i0 : Int) ≤ (i : Int) := by omega
 have hz2 : (i : Int) ≤ (s.size : Int) := by omega
 go_quiet (fail)
 go_wp2
 go_ret
 have e := (rowEnd_stop s p i (fun h => hlt h.1)).symm.trans HR.out
 subst e
 exact ⟨rfl, blk_drewN (blk_drewN HB.out _) _, (HK.out.drewN _).drewN _⟩) : p_ := h_
theorem sTe2_3 {p_ : Prop} (h_ : p_ := by
 exact ⟨by first | rfl | (simp; done) | (simp [*]; done), by repeat (first | exact Drawn0.refl _ | apply Drawn0.step)⟩) : p_ := h_
theorem sTe2_4 {p_ : Prop} (h_ : p_ := by
 rintro w' ⟨s0, s1⟩
 go_simp
 with_reducible rfl) : p_ := h_
theorem sTe2_5 {p_ : Prop} (h_ : p_ := by
 exact ⟨by first | rfl | (simp [errW_none, errW_some] <;> rfl) | (simp [*, errW_none, errW_some] <;> rfl), by repeat (first | (with_reducible first | exact HB.out | apply below_alloc | apply pw_below_drewN | apply below_drew1) | exact HB.out)⟩) : p_ := h_
end Go.Proofs
namespace Go.Proofs
open Go.Shelf
def Tryd.lays156_ren : Go.Shelf.Ren := ⟨fun | 156 => 41 | 165 => 65 | 166 => 66 | 169 => 67 | 240 => 80 | 241 => 81 | 276 => 88 | 277 => 89 | n => n, fun | 31 => 23 | 9 => 9 | 3 => 3 | 4 => 4 | 0 => 0 | 20 => 20 | 72 => 104 | 76 => 107 | 70 => 102 | 37 => 100 | 75 => 106 | 127 => 115 | 164 => 122 | 5 => 5 | 80 => 109 | n => n, fun | n => n⟩
theorem Tryd.lays156 : Go.Proofs.Lays.n156 Tryd.prog Tryd.lays156_ren := {
 mixed := by kernel_rfl
 f156 := Tryd.func41.trans (congrArg some (by kernel_rfl))
 f165 := Tryd.func65.trans (congrArg some (by kernel_rfl))
 f166 := Tryd.func66.trans (congrArg some (by kernel_rfl))
 f169 := Tryd.func67.trans (congrArg some (by kernel_rfl))
 f240 := Tryd.func80.trans (congrArg some (by kernel_rfl))
 f241 := Tryd.func81.trans (congrArg some (by kernel_rfl))
 f276 := Tryd.func88.trans (congrArg some (by kernel_rfl))
 f277 := Tryd.func89.trans (congrArg some (by kernel_rfl))
 t0 := Tryd.underlying0
 a0 := Tryd.isAgg0
 z0 := Tryd.sizeOf0
 v0 := Tryd.zeroValue0
 t3 := Tryd.underlying3
 a3 := Tryd.isAgg3
 z3 := Tryd.sizeOf3
 v3 := Tryd.zeroValue3
 t4 := Tryd.underlying4
 a4 := Tryd.isAgg4
 z4 := Tryd.sizeOf4
 v4 := Tryd.zeroValue4
 t9 := Tryd.underlying9
 a9 := Tryd.isAgg9
 z9 := Tryd.sizeOf9
 v9 := Tryd.zeroValue9
 t20 := Tryd.underlying20
 a20 := Tryd.isAgg20
 z20 := Tryd.sizeOf20
 v20 := Tryd.zeroValue20
 t31 := Tryd.underlying23
 a31 := Tryd.isAgg23
 z31 := Tryd.sizeOf23
 v31 := Tryd.zeroValue23
 t37 := Tryd.underlying100
 a37 := Tryd.isAgg100
 z37 := Tryd.sizeOf100
 v37 := Tryd.zeroValue100
 t70 := Tryd.underlying102
 a70 := Tryd.isAgg102
 z70 := Tryd.sizeOf102
 v70 := Tryd.zeroValue102
 t72 := Tryd.underlying104
 a72 := Tryd.isAgg104
 z72 := Tryd.sizeOf104
 v72 := Tryd.zeroValue104
 t75 := Tryd.underlying106
 a75 := Tryd.isAgg106
 z75 := Tryd.sizeOf106
 v75 := Tryd.zeroValue106
 t76 := Tryd.underlying107
 a76 := Tryd.isAgg107
 z76 := Tryd.sizeOf107
 v76 := Tryd.zeroValue107
 t127 := Tryd.underlying115
 a127 := Tryd.isAgg115
 z127 := Tryd.sizeOf115
 v127 := Tryd.zeroValue115
 t164 := Tryd.underlying122
 a164 := Tryd.isAgg122
 z164 := Tryd.sizeOf122
 v164 := Tryd.zeroValue122 }
theorem Tryd.Builder_Extra_156 : Builder.Extra Tryd.prog Tryd.lays156_ren := {
 sizeBuilder := by kernel_rfl
 liesBuilder := by kernel_rfl
 t5 := Tryd.underlying5
 a5 := Tryd.isAgg5
 z5 := Tryd.sizeOf5
 v5 := Tryd.zeroValue5
 infoByte := by kernel_rfl
 cellsByte := by kernel_rfl
 sizeByte := by kernel_rfl
 neB5 := by decide }
open Go.RowKit in
/-- strings.Join: "Join concatenates the elements of its first argument to create a single string. The separator string sep is placed between elements in the resulting string.": HOWEVER MANY ELEMENTS. Below the heap's end the world is as it was. (LAID: no walk: one application.) -/
theorem Tryd.strings_Join (bk o c : Nat) (xs : List ByteArray) (sep : ByteArray) (w : World) (hcells : ∀ (j : Nat) x, xs[j]? = some x → w.cell? ⟨bk, o + j, none⟩ = some (.string x)) (hbk : bk < w.heap.size) (hN : xs.length ≤ 140737488355328) (hcap : xs.length ≤ c) (hlen : (Lib.join (xs.map (·.data.toList)) sep.data.toList).length ≤ 140737488355328) :
  Calls Tryd.prog 41 #[.slice (some ⟨bk, o, none⟩) xs.length c, .string sep] w fun e w' => e = .returned (.string ⟨(Lib.join (xs.map (·.data.toList)) sep.data.toList).toArray⟩) ∧ Below w.heap.size w w' := Any.strings_Join Tryd.lays156 Tryd.Builder_Extra_156 bk o c xs sep w hcells hbk hN hcap hlen
def Tryd.lays137_ren : Go.Shelf.Ren := ⟨fun | 137 => 63 | 217 => 78 | 266 => 87 | n => n, fun | 9 => 9 | 5 => 5 | 3 => 3 | n => n, fun | n => n⟩
theorem Tryd.lays137 : Go.Proofs.Lays.n137 Tryd.prog Tryd.lays137_ren := {
 mixed := by kernel_rfl
 f137 := Tryd.func63.trans (congrArg some (by kernel_rfl))
 f217 := Tryd.func78.trans (congrArg some (by kernel_rfl))
 f266 := Tryd.func87.trans (congrArg some (by kernel_rfl))
 t3 := Tryd.underlying3
 a3 := Tryd.isAgg3
 z3 := Tryd.sizeOf3
 v3 := Tryd.zeroValue3
 t5 := Tryd.underlying5
 a5 := Tryd.isAgg5
 z5 := Tryd.sizeOf5
 v5 := Tryd.zeroValue5
 t9 := Tryd.underlying9
 a9 := Tryd.isAgg9
 z9 := Tryd.sizeOf9
 v9 := Tryd.zeroValue9 }
open Go.RowKit in
/-- strings.IndexByte: "IndexByte returns the index of the first instance of c in s, or -1 if c is not present in s.": IT RETURNS 'Lib.indexByte s c'; the world is as it was. (LAID: no walk: one application.) -/
theorem Tryd.strings_IndexByte (s : ByteArray) (c : Int) (w : World) :
  Calls Tryd.prog 63 #[.string s, .int .u8 c] w fun e w' => e = .returned (.int .i64 (Lib.indexByte s.data.toList c.toNat.toUInt8)) ∧ w' = w := Any.strings_IndexByte Tryd.lays137 s c w
def Tryd.lays260_ren : Go.Shelf.Ren := ⟨fun | 260 => 77 | n => n, fun | 9 => 9 | 21 => 21 | 3 => 3 | 4 => 4 | 5 => 5 | 119 => 118 | 0 => 0 | 46 => 117 | 139 => 121 | 138 => 120 | n => n, fun | 3 => 0 | 4 => 1 | n => n⟩
theorem Tryd.lays260 : Go.Proofs.Lays.n260 Tryd.prog Tryd.lays260_ren := {
 mixed := by kernel_rfl
 f260 := Tryd.func77.trans (congrArg some (by kernel_rfl))
 t0 := Tryd.underlying0
 a0 := Tryd.isAgg0
 z0 := Tryd.sizeOf0
 v0 := Tryd.zeroValue0
 t3 := Tryd.underlying3
 a3 := Tryd.isAgg3
 z3 := Tryd.sizeOf3
 v3 := Tryd.zeroValue3
 t4 := Tryd.underlying4
 a4 := Tryd.isAgg4
 z4 := Tryd.sizeOf4
 v4 := Tryd.zeroValue4
 t5 := Tryd.underlying5
 a5 := Tryd.isAgg5
 z5 := Tryd.sizeOf5
 v5 := Tryd.zeroValue5
 t9 := Tryd.underlying9
 a9 := Tryd.isAgg9
 z9 := Tryd.sizeOf9
 v9 := Tryd.zeroValue9
 t21 := Tryd.underlying21
 a21 := Tryd.isAgg21
 z21 := Tryd.sizeOf21
 v21 := Tryd.zeroValue21
 t46 := Tryd.underlying117
 a46 := Tryd.isAgg117
 z46 := Tryd.sizeOf117
 v46 := Tryd.zeroValue117
 t119 := Tryd.underlying118
 a119 := Tryd.isAgg118
 z119 := Tryd.sizeOf118
 t138 := Tryd.underlying120
 a138 := Tryd.isAgg120
 z138 := Tryd.sizeOf120
 v138 := Tryd.zeroValue120
 t139 := Tryd.underlying121
 a139 := Tryd.isAgg121
 z139 := Tryd.sizeOf121
 v139 := Tryd.zeroValue121
 g3 := by kernel_rfl
 g4 := by kernel_rfl }
def Tryd.lays197_ren : Go.Shelf.Ren := ⟨fun | 197 => 56 | 260 => 77 | n => n, fun | 9 => 9 | 21 => 21 | 3 => 3 | 4 => 4 | 5 => 5 | 105 => 92 | 119 => 118 | 0 => 0 | 46 => 117 | 139 => 121 | 138 => 120 | n => n, fun | 3 => 0 | 4 => 1 | n => n⟩
theorem Tryd.lays197 : Go.Proofs.Lays.n197 Tryd.prog Tryd.lays197_ren := {
 mixed := by kernel_rfl
 f197 := Tryd.func56.trans (congrArg some (by kernel_rfl))
 f260 := Tryd.func77.trans (congrArg some (by kernel_rfl))
 t0 := Tryd.underlying0
 a0 := Tryd.isAgg0
 z0 := Tryd.sizeOf0
 v0 := Tryd.zeroValue0
 t3 := Tryd.underlying3
 a3 := Tryd.isAgg3
 z3 := Tryd.sizeOf3
 v3 := Tryd.zeroValue3
 t4 := Tryd.underlying4
 a4 := Tryd.isAgg4
 z4 := Tryd.sizeOf4
 v4 := Tryd.zeroValue4
 t5 := Tryd.underlying5
 a5 := Tryd.isAgg5
 z5 := Tryd.sizeOf5
 v5 := Tryd.zeroValue5
 t9 := Tryd.underlying9
 a9 := Tryd.isAgg9
 z9 := Tryd.sizeOf9
 v9 := Tryd.zeroValue9
 t21 := Tryd.underlying21
 a21 := Tryd.isAgg21
 z21 := Tryd.sizeOf21
 v21 := Tryd.zeroValue21
 t46 := Tryd.underlying117
 a46 := Tryd.isAgg117
 z46 := Tryd.sizeOf117
 v46 := Tryd.zeroValue117
 t105 := Tryd.underlying92
 a105 := Tryd.isAgg92
 z105 := Tryd.sizeOf92
 v105 := Tryd.zeroValue92
 t119 := Tryd.underlying118
 a119 := Tryd.isAgg118
 z119 := Tryd.sizeOf118
 t138 := Tryd.underlying120
 a138 := Tryd.isAgg120
 z138 := Tryd.sizeOf120
 v138 := Tryd.zeroValue120
 t139 := Tryd.underlying121
 a139 := Tryd.isAgg121
 z139 := Tryd.sizeOf121
 v139 := Tryd.zeroValue121
 g3 := by kernel_rfl
 g4 := by kernel_rfl }
open Go.RowKit Go.Lib in
/-- **unicode/utf8.DecodeRuneInString AT EVERY STRING.** (LAID: no walk: one application.) -/
theorem Tryd.utf8_DecodeRuneInString (s : ByteArray) (w : World) (hT : Lib.Utf8Tabs 0 1 w) :
  Calls Tryd.prog 56 #[.string s] w fun e w' => e = .returned (.tuple #[.int .i32 (Lib.decodeGo s).1, .int .i64 (Lib.decodeGo s).2]) ∧ Below w.heap.size w w' := Any.utf8_DecodeRuneInString Tryd.lays197 s w hT
end Go.Proofs
namespace Go.Proofs.YtngedmioeodmfaaDoor
open Go.RowKit
def Laid (w : World) : Prop := Lib.Utf8Tabs 0 1 w
theorem Laid.below {w w' : World} (h : Laid w) (hb : Below w.heap.size w w') : Laid w' := Utf8Tabs_below h hb
end Go.Proofs.YtngedmioeodmfaaDoor
namespace Go.Proofs.YtngedmioeodmfaaDoor
open Go.Shelf Go.RowKit
set_option maxRecDepth 100000
abbrev lst : List (String × DataW Unit) := [("unicode/utf8.acceptRanges", Rows.laid_unicode_utf8_acceptRanges), ("unicode/utf8.first", Rows.laid_unicode_utf8_first)]
theorem accept_eq : (Rows.laid_unicode_utf8_acceptRanges : DataW Unit) = Lib.acceptData := by kernel_rfl
theorem tabs {W : World} (h : laidMetH Tryd.prog lst W) : Laid W := by
 have h1 := Lib.laidMet.reads h (.head _)
 have h2 := Lib.laidMet.reads h (.tail _ (.head _))
 rw [accept_eq] at h1
 rw [show (Rows.laid_unicode_utf8_first : DataW Unit) = Lib.firstData from Pinned.utf8First_eq] at h2
 exact utf8Tabs_of_readsT (U8Types.of260 Tryd.lays260) ⟨by kernel_rfl, by kernel_rfl, by kernel_rfl, by kernel_rfl, by kernel_rfl, by kernel_rfl, by kernel_rfl⟩ h2 h1
noncomputable def laidWorld (os : Os) : World :=
 let w0 := World.holding Tryd.prog os ⟨#[], #[], []⟩
 let put (h : Array Obj) (g : Nat) (cs : Array Value) : Array Obj := h.modify g fun
  | .cells _ t frozen => .cells cs t frozen
  | o => o
 let h1 := put w0.heap 0 (Lib.firstTab.map fun z => Value.int .u8 z).toArray
 let h2 := put h1 1 ((List.range 16).flatMap fun i => [Value.int .u8 (Lib.accLo i), Value.int .u8 (Lib.accHi i)]).toArray
 { w0 with heap := h2 }
theorem laid_met (os : Os) (args : Array Value) : laidMet Tryd.prog lst ((laidWorld os).forCall (fun _ _ => 0) ⟨#[], args, []⟩).memory := by
 have h : LaidIn Tryd.prog ((laidWorld os).forCall (fun _ _ => 0) ⟨#[], args, []⟩).memory [("unicode/utf8.acceptRanges", Lib.acceptData), ("unicode/utf8.first", Lib.firstData)] [0, 1] :=
  LaidIn.of_run [0, 1] 8 (by kernel_rfl) (by kernel_rfl) (by kernel_rfl) (by kernel_rfl)
 have e : lst = [("unicode/utf8.acceptRanges", Lib.acceptData), ("unicode/utf8.first", Lib.firstData)] := by
  unfold lst
  rw [accept_eq, show (Rows.laid_unicode_utf8_first : DataW Unit) = Lib.firstData from Pinned.utf8First_eq]
 rw [e]
 exact h.met
end Go.Proofs.YtngedmioeodmfaaDoor
namespace Go.Proofs.YtngedmioeodmfaaDoor.Pr
open Go.RowKit Go.Proofs.YtngedmioeodmfaaDoorW.PrintWords Go.Proofs.YtngedmioeodmfaaDoorW.PrintLast Go.Proofs.YtngedmioeodmfaaDoorW.PrintMore
attribute [local go_sem] max2_int min2_int max_two min_two max_three min_three max_four min_four
def errW : Option Int → Value
 | none => .nilIface
 | some c => .iface 0 (.int .i64 c)
theorem errW_none : errW none = .nilIface := rfl
theorem errW_some (c : Int) : errW (some c) = .iface 0 (.int .i64 c) := rfl
theorem info5 : (Tryd.prog.info? 5).map (fun i => (i.zero, i.size, i.bytes)) = some (some (.int .u8 0), 1, 1) := by kernel_rfl
theorem info40 : (Tryd.prog.info? 40).map (fun i => (i.zero, i.size, i.bytes)) = some (some (.agg #[(.int .i64 0), (.int .i64 0), (.string ⟨#[]⟩)]), 3, 32) := by kernel_rfl
structure S46 where
 f0 : ByteArray
 f1 : ByteArray
def z46 : S46 := ⟨(⟨#[]⟩ : ByteArray), (⟨#[]⟩ : ByteArray)⟩
def k46 : Kd S46 := Kd.iso (Kd.pair Kd.string Kd.string) (fun x : S46 => (x.f0, x.f1))
theorem k46_open {w : World} {x : S46} {cs : List Value} (h : k46.K w x cs) : cs = [.string x.f0, .string x.f1] := by
 obtain ⟨_, _, rfl, rfl, rfl⟩ := h
 exact rfl
theorem k46_openM {w : World} {base : Nat} {ok : Nat → Prop} {x : S46} {cs : List Value} (h : k46.M w base ok x cs) : cs = [.string x.f0, .string x.f1] := by
 obtain ⟨_, _, rfl, rfl, rfl⟩ := h
 exact rfl
theorem k46_mk (w : World) (x : S46)  : k46.K w x [.string x.f0, .string x.f1] := ⟨[.string x.f0], [.string x.f1], rfl, rfl, rfl⟩
theorem k46_mkM (w : World) (base : Nat) (ok : Nat → Prop) (x : S46)  : k46.M w base ok x [.string x.f0, .string x.f1] := ⟨[.string x.f0], [.string x.f1], rfl, rfl, rfl⟩
structure S49 where
 f0 : Int
 f1 : S46
 f2 : (List S49)
def z49 : S49 := ⟨(0 : Int), z46, ([] : List S49)⟩
def F49 (d : Kd S49) : Kd S49 := Kd.iso (Kd.pair (Kd.int .i64) (Kd.pair k46 (Kd.slice 49 d))) (fun x : S49 => (x.f0, x.f1, x.f2))
theorem mono49 : Kd.Mono F49 := Kd.mono_iso _ (Kd.mono_pair (Kd.mono_const _) (Kd.mono_pair (Kd.mono_const _) (Kd.mono_slice 49 Kd.mono_id)))
theorem sub49 : Kd.Sub F49 [49] := Kd.sub_iso _ (Kd.sub_pair (Kd.sub_const _ (by decide)) (Kd.sub_pair (Kd.sub_const _ (by decide)) (Kd.sub_slice 49 (by decide) Kd.sub_id)))
theorem sz49 : ∀ n, (Kd.upto F49 4 [49] n).sz = 4 := Kd.upto_sz (fun _ => rfl)
def k49 : Kd S49 := Kd.fix F49 4 [49] sz49 (Kd.upto_E sub49)
theorem k49_open {w : World} {x : S49} {cs : List Value} (h : k49.K w x cs) : ∃ A3 c3, cs = [.int .i64 x.f0, .string x.f1.f0, .string x.f1.f1, .slice A3 x.f2.length c3] ∧ x.f2.length ≤ c3 ∧ k49.C w A3 x.f2.length x.f2 := by
 obtain ⟨n, h⟩ := h
 cases n with
 | zero => exact h.elim
 | succ n =>
  obtain ⟨_, _, rfl, rfl, ⟨_, _, rfl, s1, ⟨A3, c3, rfl, l3, g3⟩⟩⟩ := h
  obtain rfl := k46_open s1
  exact ⟨A3, c3, rfl, l3, Kd.fix_C g3⟩
theorem k49_openM {w : World} {base : Nat} {ok : Nat → Prop} {x : S49} {cs : List Value} (h : k49.M w base ok x cs) : ∃ v3, cs = [.int .i64 x.f0, .string x.f1.f0, .string x.f1.f1, v3] ∧ k49.R 49 w base ok v3 x.f2 := by
 obtain ⟨n, h⟩ := h
 cases n with
 | zero => exact h.elim
 | succ n =>
  obtain ⟨_, _, rfl, rfl, ⟨_, _, rfl, s1, ⟨v3, rfl, g3⟩⟩⟩ := h
  obtain rfl := k46_openM s1
  exact ⟨v3, rfl, Kd.fix_R g3⟩
theorem k49_mk (w : World) (x : S49) {A3 : Option Addr} {c3 : Nat} (l3 : x.f2.length ≤ c3) (g3 : k49.C w A3 x.f2.length x.f2) : k49.K w x [.int .i64 x.f0, .string x.f1.f0, .string x.f1.f1, .slice A3 x.f2.length c3] := by
 obtain ⟨n3, q3⟩ := Kd.fix_C_back mono49 g3
 have r3 := Kd.upto_C_le mono49 sz49 (show n3 ≤ n3 by omega) q3
 exact ⟨n3 + 1, ⟨[.int .i64 x.f0], [.string x.f1.f0, .string x.f1.f1, .slice A3 x.f2.length c3], rfl, rfl, ⟨[.string x.f1.f0, .string x.f1.f1], [.slice A3 x.f2.length c3], rfl, (k46_mk w x.f1 ), ⟨A3, c3, rfl, l3, r3⟩⟩⟩⟩
theorem k49_mkM (w : World) (base : Nat) (ok : Nat → Prop) (x : S49) {v3 : Value} (g3 : k49.R 49 w base ok v3 x.f2) : k49.M w base ok x [.int .i64 x.f0, .string x.f1.f0, .string x.f1.f1, v3] := by
 obtain ⟨n3, q3⟩ := Kd.fix_R_back mono49 g3
 have r3 := Kd.upto_R_le mono49 sz49 (show n3 ≤ n3 by omega) q3
 exact ⟨n3 + 1, ⟨[.int .i64 x.f0], [.string x.f1.f0, .string x.f1.f1, v3], rfl, rfl, ⟨[.string x.f1.f0, .string x.f1.f1], [v3], rfl, (k46_mkM w base ok x.f1 ), ⟨v3, rfl, r3⟩⟩⟩⟩
def rd_T49 (xs : List S49) (i : Int) : S49 := xs.getD i.toNat z49
theorem at_T49 {w : World} {A : Option Addr} {n : Nat} {xs : List S49} (h : Kd.C k49 w A n xs) (i : Int) (h0 : 0 ≤ i) (h1 : i < n) : ∃ ad A3 c3, A = some ad ∧ w.cell? (ad.add (i.toNat * 4)) = some (.int .i64 (rd_T49 xs i).f0) ∧ w.cell? ⟨(ad.add (i.toNat * 4)).block, (ad.add (i.toNat * 4)).off + 1, none⟩ = some (.string (rd_T49 xs i).f1.f0) ∧ w.cell? ⟨(ad.add (i.toNat * 4)).block, (ad.add (i.toNat * 4)).off + 2, none⟩ = some (.string (rd_T49 xs i).f1.f1) ∧ w.cell? ⟨(ad.add (i.toNat * 4)).block, (ad.add (i.toNat * 4)).off + 3, none⟩ = some (.slice A3 (rd_T49 xs i).f2.length c3) ∧ (rd_T49 xs i).f2.length ≤ c3 ∧ k49.C w A3 (rd_T49 xs i).f2.length (rd_T49 xs i).f2 := by
 obtain ⟨ad, c, e, _, hK, hc0⟩ := Kd.C_get h z49 i h0 h1
 have hc : ∀ j u, c[j]? = some u → w.cell? (ad.add (i.toNat * 4 + j)) = some u := hc0
 obtain ⟨A3, c3, rfl, l3, g3⟩ := k49_open hK
 exact ⟨ad, A3, c3, e, hc 0 _ rfl, by rw [← add_field _ _ 1 (by omega)]; exact hc 1 _ rfl, by rw [← add_field _ _ 2 (by omega)]; exact hc 2 _ rfl, by rw [← add_field _ _ 3 (by omega)]; exact hc 3 _ rfl, l3, g3⟩
structure S51 where
 f0 : Bool
 f1 : S49
def z51 : S51 := ⟨false, z49⟩
def k51 : Kd S51 := Kd.iso (Kd.pair Kd.bool k49) (fun x : S51 => (x.f0, x.f1))
theorem k51_open {w : World} {x : S51} {cs : List Value} (h : k51.K w x cs) : ∃ A4 c4, cs = [.bool x.f0, .int .i64 x.f1.f0, .string x.f1.f1.f0, .string x.f1.f1.f1, .slice A4 x.f1.f2.length c4] ∧ x.f1.f2.length ≤ c4 ∧ k49.C w A4 x.f1.f2.length x.f1.f2 := by
 obtain ⟨_, _, rfl, rfl, s1⟩ := h
 obtain ⟨A4, c4, rfl, l4, g4⟩ := k49_open s1
 exact ⟨A4, c4, rfl, l4, g4⟩
theorem k51_openM {w : World} {base : Nat} {ok : Nat → Prop} {x : S51} {cs : List Value} (h : k51.M w base ok x cs) : ∃ v4, cs = [.bool x.f0, .int .i64 x.f1.f0, .string x.f1.f1.f0, .string x.f1.f1.f1, v4] ∧ k49.R 49 w base ok v4 x.f1.f2 := by
 obtain ⟨_, _, rfl, rfl, s1⟩ := h
 obtain ⟨v4, rfl, g4⟩ := k49_openM s1
 exact ⟨v4, rfl, g4⟩
theorem k51_mk (w : World) (x : S51) {A4 : Option Addr} {c4 : Nat} (l4 : x.f1.f2.length ≤ c4) (g4 : k49.C w A4 x.f1.f2.length x.f1.f2) : k51.K w x [.bool x.f0, .int .i64 x.f1.f0, .string x.f1.f1.f0, .string x.f1.f1.f1, .slice A4 x.f1.f2.length c4] := ⟨[.bool x.f0], [.int .i64 x.f1.f0, .string x.f1.f1.f0, .string x.f1.f1.f1, .slice A4 x.f1.f2.length c4], rfl, rfl, (k49_mk w x.f1 l4 g4)⟩
theorem k51_mkM (w : World) (base : Nat) (ok : Nat → Prop) (x : S51) {v4 : Value} (g4 : k49.R 49 w base ok v4 x.f1.f2) : k51.M w base ok x [.bool x.f0, .int .i64 x.f1.f0, .string x.f1.f1.f0, .string x.f1.f1.f1, v4] := ⟨[.bool x.f0], [.int .i64 x.f1.f0, .string x.f1.f1.f0, .string x.f1.f1.f1, v4], rfl, rfl, (k49_mkM w base ok x.f1 g4)⟩
def rd_T51 (xs : List S51) (i : Int) : S51 := xs.getD i.toNat z51
theorem at_T51 {w : World} {A : Option Addr} {n : Nat} {xs : List S51} (h : Kd.C k51 w A n xs) (i : Int) (h0 : 0 ≤ i) (h1 : i < n) : ∃ ad A4 c4, A = some ad ∧ w.cell? (ad.add (i.toNat * 5)) = some (.bool (rd_T51 xs i).f0) ∧ w.cell? ⟨(ad.add (i.toNat * 5)).block, (ad.add (i.toNat * 5)).off + 1, none⟩ = some (.int .i64 (rd_T51 xs i).f1.f0) ∧ w.cell? ⟨(ad.add (i.toNat * 5)).block, (ad.add (i.toNat * 5)).off + 2, none⟩ = some (.string (rd_T51 xs i).f1.f1.f0) ∧ w.cell? ⟨(ad.add (i.toNat * 5)).block, (ad.add (i.toNat * 5)).off + 3, none⟩ = some (.string (rd_T51 xs i).f1.f1.f1) ∧ w.cell? ⟨(ad.add (i.toNat * 5)).block, (ad.add (i.toNat * 5)).off + 4, none⟩ = some (.slice A4 (rd_T51 xs i).f1.f2.length c4) ∧ (rd_T51 xs i).f1.f2.length ≤ c4 ∧ k49.C w A4 (rd_T51 xs i).f1.f2.length (rd_T51 xs i).f1.f2 := by
 obtain ⟨ad, c, e, _, hK, hc0⟩ := Kd.C_get h z51 i h0 h1
 have hc : ∀ j u, c[j]? = some u → w.cell? (ad.add (i.toNat * 5 + j)) = some u := hc0
 obtain ⟨A4, c4, rfl, l4, g4⟩ := k51_open hK
 exact ⟨ad, A4, c4, e, hc 0 _ rfl, by rw [← add_field _ _ 1 (by omega)]; exact hc 1 _ rfl, by rw [← add_field _ _ 2 (by omega)]; exact hc 2 _ rfl, by rw [← add_field _ _ 3 (by omega)]; exact hc 3 _ rfl, by rw [← add_field _ _ 4 (by omega)]; exact hc 4 _ rfl, l4, g4⟩
structure S44 where
 f0 : ByteArray
 f1 : (List ByteArray)
 f2 : (List ByteArray)
 f3 : Bool
def z44 : S44 := ⟨(⟨#[]⟩ : ByteArray), ([] : List ByteArray), ([] : List ByteArray), false⟩
def k44 : Kd S44 := Kd.iso (Kd.pair Kd.string (Kd.pair (Kd.slice 9 Kd.string) (Kd.pair (Kd.slice 9 Kd.string) Kd.bool))) (fun x : S44 => (x.f0, x.f1, x.f2, x.f3))
theorem k44_open {w : World} {x : S44} {cs : List Value} (h : k44.K w x cs) : ∃ A1 c1 A2 c2, cs = [.string x.f0, .slice A1 x.f1.length c1, .slice A2 x.f2.length c2, .bool x.f3] ∧ x.f1.length ≤ c1 ∧ Kd.string.C w A1 x.f1.length x.f1 ∧ x.f2.length ≤ c2 ∧ Kd.string.C w A2 x.f2.length x.f2 := by
 obtain ⟨_, _, rfl, rfl, ⟨_, _, rfl, ⟨A1, c1, rfl, l1, g1⟩, ⟨_, _, rfl, ⟨A2, c2, rfl, l2, g2⟩, rfl⟩⟩⟩ := h
 exact ⟨A1, c1, A2, c2, rfl, l1, g1, l2, g2⟩
theorem k44_mkM (w : World) (base : Nat) (ok : Nat → Prop) (x : S44) {v1 : Value} (g1 : Kd.string.R 9 w base ok v1 x.f1) {v2 : Value} (g2 : Kd.string.R 9 w base ok v2 x.f2) : k44.M w base ok x [.string x.f0, v1, v2, .bool x.f3] := ⟨[.string x.f0], [v1, v2, .bool x.f3], rfl, rfl, ⟨[v1], [v2, .bool x.f3], rfl, ⟨v1, rfl, g1⟩, ⟨[v2], [.bool x.f3], rfl, ⟨v2, rfl, g2⟩, rfl⟩⟩⟩
def rd_T44 (xs : List S44) (i : Int) : S44 := xs.getD i.toNat z44
theorem at_T44 {w : World} {A : Option Addr} {n : Nat} {xs : List S44} (h : Kd.C k44 w A n xs) (i : Int) (h0 : 0 ≤ i) (h1 : i < n) : ∃ ad A1 c1 A2 c2, A = some ad ∧ w.cell? (ad.add (i.toNat * 4)) = some (.string (rd_T44 xs i).f0) ∧ w.cell? ⟨(ad.add (i.toNat * 4)).block, (ad.add (i.toNat * 4)).off + 1, none⟩ = some (.slice A1 (rd_T44 xs i).f1.length c1) ∧ w.cell? ⟨(ad.add (i.toNat * 4)).block, (ad.add (i.toNat * 4)).off + 2, none⟩ = some (.slice A2 (rd_T44 xs i).f2.length c2) ∧ w.cell? ⟨(ad.add (i.toNat * 4)).block, (ad.add (i.toNat * 4)).off + 3, none⟩ = some (.bool (rd_T44 xs i).f3) ∧ (rd_T44 xs i).f1.length ≤ c1 ∧ Kd.string.C w A1 (rd_T44 xs i).f1.length (rd_T44 xs i).f1 ∧ (rd_T44 xs i).f2.length ≤ c2 ∧ Kd.string.C w A2 (rd_T44 xs i).f2.length (rd_T44 xs i).f2 := by
 obtain ⟨ad, c, e, _, hK, hc0⟩ := Kd.C_get h z44 i h0 h1
 have hc : ∀ j u, c[j]? = some u → w.cell? (ad.add (i.toNat * 4 + j)) = some u := hc0
 obtain ⟨A1, c1, A2, c2, rfl, l1, g1, l2, g2⟩ := k44_open hK
 exact ⟨ad, A1, c1, A2, c2, e, hc 0 _ rfl, by rw [← add_field _ _ 1 (by omega)]; exact hc 1 _ rfl, by rw [← add_field _ _ 2 (by omega)]; exact hc 2 _ rfl, by rw [← add_field _ _ 3 (by omega)]; exact hc 3 _ rfl, l1, g1, l2, g2⟩
structure S40 where
 f0 : Int
 f1 : Int
 f2 : ByteArray
def z40 : S40 := ⟨(0 : Int), (0 : Int), (⟨#[]⟩ : ByteArray)⟩
def k40 : Kd S40 := Kd.iso (Kd.pair (Kd.int .i64) (Kd.pair (Kd.int .i64) Kd.string)) (fun x : S40 => (x.f0, x.f1, x.f2))
theorem k40_open {w : World} {x : S40} {cs : List Value} (h : k40.K w x cs) : cs = [.int .i64 x.f0, .int .i64 x.f1, .string x.f2] := by
 obtain ⟨_, _, rfl, rfl, ⟨_, _, rfl, rfl, rfl⟩⟩ := h
 exact rfl
theorem k40_mkM (w : World) (base : Nat) (ok : Nat → Prop) (x : S40)  : k40.M w base ok x [.int .i64 x.f0, .int .i64 x.f1, .string x.f2] := ⟨[.int .i64 x.f0], [.int .i64 x.f1, .string x.f2], rfl, rfl, ⟨[.int .i64 x.f1], [.string x.f2], rfl, rfl, rfl⟩⟩
def rd_T40 (xs : List S40) (i : Int) : S40 := xs.getD i.toNat z40
theorem at_T40 {w : World} {A : Option Addr} {n : Nat} {xs : List S40} (h : Kd.C k40 w A n xs) (i : Int) (h0 : 0 ≤ i) (h1 : i < n) : ∃ ad , A = some ad ∧ w.cell? (ad.add (i.toNat * 3)) = some (.int .i64 (rd_T40 xs i).f0) ∧ w.cell? ⟨(ad.add (i.toNat * 3)).block, (ad.add (i.toNat * 3)).off + 1, none⟩ = some (.int .i64 (rd_T40 xs i).f1) ∧ w.cell? ⟨(ad.add (i.toNat * 3)).block, (ad.add (i.toNat * 3)).off + 2, none⟩ = some (.string (rd_T40 xs i).f2) := by
 obtain ⟨ad, c, e, _, hK, hc0⟩ := Kd.C_get h z40 i h0 h1
 have hc : ∀ j u, c[j]? = some u → w.cell? (ad.add (i.toNat * 3 + j)) = some u := hc0
 obtain rfl := k40_open hK
 exact ⟨ad, e, hc 0 _ rfl, by rw [← add_field _ _ 1 (by omega)]; exact hc 1 _ rfl, by rw [← add_field _ _ 2 (by omega)]; exact hc 2 _ rfl⟩
end Go.Proofs.YtngedmioeodmfaaDoor.Pr
namespace Go.Proofs.YtngedmioeodmfaaDoor.Pr
open Go.RowKit Go.Proofs.YtngedmioeodmfaaDoorW.PrintWords Go.Proofs.YtngedmioeodmfaaDoorW.PrintLast Go.Proofs.YtngedmioeodmfaaDoorW.PrintMore
attribute [local go_sem] max2_int min2_int max_two min_two max_three min_three max_four min_four
def utf8_DecodeRuneInString.f (a0 : ByteArray) : Option (Int × Int) := some (((Go.Lib.decodeGo a0).1 : Int), ((Go.Lib.decodeGo a0).2 : Int))
theorem utf8_DecodeRuneInString.calls (a0 : ByteArray) (r1 : Int) (r2 : Int) (w : World) (hL : Laid w) (h : utf8_DecodeRuneInString.f a0 = some (r1, r2)) :
  Calls Tryd.prog 56 #[.string a0] w fun e w' => e = .returned (.tuple #[.int .i32 r1, .int .i64 r2]) ∧ Below w.heap.size w w' := by
 unfold utf8_DecodeRuneInString.f at h
 simp only [Option.some.injEq, Prod.mk.injEq] at h
 obtain ⟨rfl, rfl⟩ := h
 exact Tryd.utf8_DecodeRuneInString a0 w hL
def lex_wrong.l0 : Nat → ByteArray → Int → Option (Int)
 | 0, _, _ => none
 | k + 1, x0, x3 => if x3 < (x0.size : Int) then (if 0 ≤ x3 then (if x3 ≤ (x0.size : Int) then ((utf8_DecodeRuneInString.f (x0.extract (x3 : Int).toNat x0.size)).bind fun bt101 => (if bt101.1 = 65533 then (if bt101.2 = 1 then (some x3) else (lex_wrong.l0 k x0 (wrap64 (x3 + bt101.2)))) else (lex_wrong.l0 k x0 (wrap64 (x3 + bt101.2))))) else (none)) else (none)) else (some (wrap64 ((x0.size : Int) + 1)))
def lex_wrong.f (k : Nat) (a0 : ByteArray) : Option (Int) := lex_wrong.l0 k a0 0
set_option maxHeartbeats 8000000 in
set_option maxRecDepth 100000 in
theorem lex_wrong.calls (k : Nat) (a0 : ByteArray) (r : Int) (w : World) (hL : Laid w) (h : lex_wrong.f k a0 = some r) :
  Calls Tryd.prog 34 #[.string a0] w fun e w' => e = .returned (.int .i64 r) ∧ Below w.heap.size w w' := by
 have HLD := Aside0.mk hL
 clear hL
 have HB := Aside0.mk (Below.refl w.heap.size w)
 have H : (lex_wrong.l0 k a0 0) = some r := h
 clear h
 have H' := Aside0.mk H
 clear H
 go_enter Tryd.func34, Tryd.ntmps34
 go_wp2
 go_loopg [3] k (fun kq v3 w' => ∃ (x3_1 : Int), v3 = .int .i64 x3_1 ∧ Aside0 (lex_wrong.l0 kq a0 x3_1 = some r) ∧ Aside0 (kq ≤ k) ∧ Aside0 (Below w.heap.size w w'))
 case atStart => exact ⟨(0), (by first | rfl | (simp; done) | (simp [*]; done)), H', ⟨Nat.le_refl _⟩, ⟨by repeat (first | (with_reducible first | exact HB.out | apply below_alloc | apply pw_below_drewN | apply below_drew1) | exact HB.out)⟩⟩
 case round =>
  clear H'
  obtain ⟨x3_1, rfl, HA, HK1, HB⟩ := hrel
  cases gk with
  | zero => exact absurd HA.out (by simp [lex_wrong.l0])
  | succ k1 =>
   have H := HA.out
   clear HA
   simp only [lex_wrong.l0] at H
   by_cases c2 : x3_1 < (a0.size : Int)
   ·rw [if_pos c2] at H
    have c2b0 : decide (x3_1 < (a0.size : Int)) = true := decide_eq_true c2
    clear c2
    by_cases c3 : 0 ≤ x3_1
    ·rw [if_pos c3] at H
     have c3b0 := eq_true c3
     have c3b1 : decide (0 ≤ x3_1) = true := decide_eq_true c3
     clear c3
     by_cases c4 : x3_1 ≤ (a0.size : Int)
     ·rw [if_pos c4] at H
      have c4b0 := eq_true c4
      have c4b1 : decide (x3_1 ≤ (a0.size : Int)) = true := decide_eq_true c4
      clear c4
      replace H := Option.bind_eq_some_iff.mp H
      obtain ⟨⟨t101, t102⟩, A50, H⟩ := H
      replace H : (if t101 = 65533 then (if t102 = 1 then (some x3_1) else (lex_wrong.l0 k1 a0 (wrap64 (x3_1 + t102)))) else (lex_wrong.l0 k1 a0 (wrap64 (x3_1 + t102)))) = some r := H
      have A5 := Aside0.mk A50
      clear A50
      by_cases c6 : t101 = 65533
      ·rw [if_pos c6] at H
       have c6b0 : (t101 == 65533) = true := beq_iff_eq.mpr c6
       have c6b1 : (t101 != 65533) = false := bne_eq_false_iff_eq.mpr c6
       clear c6
       by_cases c7 : t102 = 1
       ·rw [if_pos c7] at H
        have c7b0 : (t102 == 1) = true := beq_iff_eq.mpr c7
        have c7b1 : (t102 != 1) = false := bne_eq_false_iff_eq.mpr c7
        clear c7
        obtain rfl := Option.some.inj H
        go_wp2_with (first | ((with_reducible refine gate_callee (f := 56) rfl ?_); refine goesL_ (some 14) rfl rfl Tryd.func56 (by kernel_rfl) rfl #[.string (a0.extract (x3_1 : Int).toNat a0.size)] rfl (by (try simp only [List.map_toArray, List.map_cons, List.map_nil]); first | done | rfl | (simp only [List.length_drop, List.length_take]; rfl)) ?_; (with_reducible refine (utf8_DecodeRuneInString.calls (a0.extract (x3_1 : Int).toNat a0.size) t101 t102 _ ?side1 A5.out).mono ?_); (case side1 => (first | (with_reducible exact HLD.out) | exact Laid.below HLD.out (by repeat (first | (with_reducible first | exact HB.out | apply below_alloc | apply pw_below_drewN | apply below_drew1) | exact HB.out)))); rintro e w8 ⟨rfl, hb⟩; refine ⟨_, rfl, ?_⟩; have n0_ := Aside0.mk (below_step (by repeat (first | (with_reducible first | exact HB.out | apply below_alloc | apply pw_below_drewN | apply below_drew1) | exact HB.out)) hb); clear HB; have HB := n0_; clear n0_; (try clear hb); (try clear hb2); (try clear hk); (try clear hi)))
        go_ret
        exact sTe2_5
       ·rw [if_neg c7] at H
        have c7b0 : (t102 == 1) = false := beq_eq_false_iff_ne.mpr c7
        have c7b1 : (t102 != 1) = true := bne_iff_ne.mpr c7
        have H' := Aside0.mk H
        clear H
        go_wp2_with (first | ((with_reducible refine gate_callee (f := 56) rfl ?_); refine goesL_ (some 14) rfl rfl Tryd.func56 (by kernel_rfl) rfl #[.string (a0.extract (x3_1 : Int).toNat a0.size)] rfl (by (try simp only [List.map_toArray, List.map_cons, List.map_nil]); first | done | rfl | (simp only [List.length_drop, List.length_take]; rfl)) ?_; (with_reducible refine (utf8_DecodeRuneInString.calls (a0.extract (x3_1 : Int).toNat a0.size) t101 t102 _ ?side1 A5.out).mono ?_); (case side1 => (first | (with_reducible exact HLD.out) | exact Laid.below HLD.out (by repeat (first | (with_reducible first | exact HB.out | apply below_alloc | apply pw_below_drewN | apply below_drew1) | exact HB.out)))); rintro e w9 ⟨rfl, hb⟩; refine ⟨_, rfl, ?_⟩; have n0_ := Aside0.mk (below_step (by repeat (first | (with_reducible first | exact HB.out | apply below_alloc | apply pw_below_drewN | apply below_drew1) | exact HB.out)) hb); clear HB; have HB := n0_; clear n0_; (try clear hb); (try clear hb2); (try clear hk); (try clear hi)))
        go_roundg k1
        case measure => have := HK1.out; omega
        case rel => exact ⟨(wrap64 (x3_1 + t102)), (by first | rfl | (simp; done) | (simp [*]; done)), H', ⟨by have := HK1.out; omega⟩, ⟨by repeat (first | (with_reducible first | exact HB.out | apply below_alloc | apply pw_below_drewN | apply below_drew1) | exact HB.out)⟩⟩
      ·rw [if_neg c6] at H
       have c6b0 : (t101 == 65533) = false := beq_eq_false_iff_ne.mpr c6
       have c6b1 : (t101 != 65533) = true := bne_iff_ne.mpr c6
       have H' := Aside0.mk H
       clear H
       go_wp2_with (first | ((with_reducible refine gate_callee (f := 56) rfl ?_); refine goesL_ (some 14) rfl rfl Tryd.func56 (by kernel_rfl) rfl #[.string (a0.extract (x3_1 : Int).toNat a0.size)] rfl (by (try simp only [List.map_toArray, List.map_cons, List.map_nil]); first | done | rfl | (simp only [List.length_drop, List.length_take]; rfl)) ?_; (with_reducible refine (utf8_DecodeRuneInString.calls (a0.extract (x3_1 : Int).toNat a0.size) t101 t102 _ ?side1 A5.out).mono ?_); (case side1 => (first | (with_reducible exact HLD.out) | exact Laid.below HLD.out (by repeat (first | (with_reducible first | exact HB.out | apply below_alloc | apply pw_below_drewN | apply below_drew1) | exact HB.out)))); rintro e w10 ⟨rfl, hb⟩; refine ⟨_, rfl, ?_⟩; have n0_ := Aside0.mk (below_step (by repeat (first | (with_reducible first | exact HB.out | apply below_alloc | apply pw_below_drewN | apply below_drew1) | exact HB.out)) hb); clear HB; have HB := n0_; clear n0_; (try clear hb); (try clear hb2); (try clear hk); (try clear hi)))
       go_roundg k1
       case measure => have := HK1.out; omega
       case rel => exact ⟨(wrap64 (x3_1 + t102)), (by first | rfl | (simp; done) | (simp [*]; done)), H', ⟨by have := HK1.out; omega⟩, ⟨by repeat (first | (with_reducible first | exact HB.out | apply below_alloc | apply pw_below_drewN | apply below_drew1) | exact HB.out)⟩⟩
     ·rw [if_neg c4] at H
      exact absurd H (by simp)
    ·rw [if_neg c3] at H
     exact absurd H (by simp)
   ·rw [if_neg c2] at H
    have c2b0 : decide (x3_1 < (a0.size : Int)) = false := decide_eq_false c2
    clear c2
    obtain rfl := Option.some.inj H
    go_wp2
    go_ret
    exact sTe2_5
def strings_IndexByte.f (a0 : ByteArray) (a1 : Int) : Option (Int) := some (Go.Lib.indexByte a0.data.toList a1.toNat.toUInt8)
theorem strings_IndexByte.calls (a0 : ByteArray) (a1 : Int) (r : Int) (w : World) (h : strings_IndexByte.f a0 a1 = some r) :
  Calls Tryd.prog 63 #[.string a0, .int .u8 a1] w fun e w' => e = .returned (.int .i64 r) ∧ Drawn0 w w' := by
 obtain rfl := Option.some.inj h
 refine (Tryd.strings_IndexByte a0 a1 w).mono ?_
 rintro e w' ⟨rfl, rfl⟩
 exact ⟨rfl, Drawn0.refl _⟩
def lex_blank.f (a0 : Int) : Option (Bool) := (strings_IndexByte.f (⟨#[9, 10, 13, 32]⟩ : ByteArray) a0).bind fun t103 => (some (decide (t103 ≥ 0)))
set_option maxHeartbeats 8000000 in
set_option maxRecDepth 100000 in
theorem lex_blank.calls (a0 : Int) (r : Bool) (w : World) (h : lex_blank.f a0 = some r) :
  Calls Tryd.prog 58 #[.int .u8 a0] w fun e w' => e = .returned (.bool r) ∧ Drawn0 w w' := by
 have H : ((strings_IndexByte.f (⟨#[9, 10, 13, 32]⟩ : ByteArray) a0).bind fun t103 => (some (decide (t103 ≥ 0)))) = some r := h
 clear h
 replace H := Option.bind_eq_some_iff.mp H
 obtain ⟨t103, A20, H⟩ := H
 replace H : (some (decide (t103 ≥ 0))) = some r := H
 have A2 := Aside0.mk A20
 clear A20
 obtain rfl := Option.some.inj H
 go_enter Tryd.func58, Tryd.ntmps58
 go_wp2_with (first | ((with_reducible refine gate_callee (f := 63) rfl ?_); refine goesL_ (some 4) rfl rfl Tryd.func63 (by kernel_rfl) rfl #[.string (⟨#[9, 10, 13, 32]⟩ : ByteArray), .int .u8 a0] rfl (by (try simp only [List.map_toArray, List.map_cons, List.map_nil]); first | done | rfl | (simp only [List.length_drop, List.length_take]; rfl)) ?_; (with_reducible refine (strings_IndexByte.calls (⟨#[9, 10, 13, 32]⟩ : ByteArray) a0 t103 _ A2.out).mono ?_); rintro e w' ⟨rfl, ⟨nd, rfl⟩⟩; refine ⟨_, rfl, ?_⟩))
 go_ret
 exact sTe2_3
def lex_letter.f (a0 : Int) : Option (Bool) := if a0 ≥ 97 then (if a0 ≤ 122 then (some true) else (if a0 ≥ 65 then (some (decide (a0 ≤ 90))) else (some false))) else (if a0 ≥ 65 then (some (decide (a0 ≤ 90))) else (some false))
set_option maxHeartbeats 8000000 in
set_option maxRecDepth 100000 in
theorem lex_letter.calls (a0 : Int) (r : Bool) (w : World) (h : lex_letter.f a0 = some r) :
  Calls Tryd.prog 60 #[.int .u8 a0] w fun e w' => e = .returned (.bool r) ∧ Drawn0 w w' := by
 have H : (if a0 ≥ 97 then (if a0 ≤ 122 then (some true) else (if a0 ≥ 65 then (some (decide (a0 ≤ 90))) else (some false))) else (if a0 ≥ 65 then (some (decide (a0 ≤ 90))) else (some false))) = some r := h
 clear h
 by_cases c2 : a0 ≥ 97
 ·rw [if_pos c2] at H
  have c2b0 : decide (97 ≤ a0) = true := decide_eq_true c2
  clear c2
  by_cases c3 : a0 ≤ 122
  ·rw [if_pos c3] at H
   have c3b0 : decide (a0 ≤ 122) = true := decide_eq_true c3
   clear c3
   obtain rfl := Option.some.inj H
   go_enter Tryd.func60, Tryd.ntmps60
   go_wp2
   go_ret
   exact sTe2_3
  ·rw [if_neg c3] at H
   have c3b0 : decide (a0 ≤ 122) = false := decide_eq_false c3
   clear c3
   by_cases c4 : a0 ≥ 65
   ·rw [if_pos c4] at H
    have c4b0 : decide (65 ≤ a0) = true := decide_eq_true c4
    clear c4
    obtain rfl := Option.some.inj H
    go_enter Tryd.func60, Tryd.ntmps60
    go_wp2
    go_ret
    exact sTe2_3
   ·rw [if_neg c4] at H
    have c4b0 : decide (65 ≤ a0) = false := decide_eq_false c4
    clear c4
    obtain rfl := Option.some.inj H
    go_enter Tryd.func60, Tryd.ntmps60
    go_wp2
    go_ret
    exact sTe2_3
 ·rw [if_neg c2] at H
  have c2b0 : decide (97 ≤ a0) = false := decide_eq_false c2
  clear c2
  by_cases c5 : a0 ≥ 65
  ·rw [if_pos c5] at H
   have c5b0 : decide (65 ≤ a0) = true := decide_eq_true c5
   clear c5
   obtain rfl := Option.some.inj H
   go_enter Tryd.func60, Tryd.ntmps60
   go_wp2
   go_ret
   exact sTe2_3
  ·rw [if_neg c5] at H
   have c5b0 : decide (65 ≤ a0) = false := decide_eq_false c5
   clear c5
   obtain rfl := Option.some.inj H
   go_enter Tryd.func60, Tryd.ntmps60
   go_wp2
   go_ret
   exact sTe2_3
def lex_word.f (a0 : Int) : Option (Bool) := (lex_letter.f a0).bind fun t104 => (if t104 = true then (some true) else (if a0 ≥ 48 then (if a0 ≤ 57 then (some true) else (if a0 = 45 then (some true) else (some (a0 == 95)))) else (if a0 = 45 then (some true) else (some (a0 == 95)))))
set_option maxHeartbeats 8000000 in
set_option maxRecDepth 100000 in
theorem lex_word.calls (a0 : Int) (r : Bool) (w : World) (h : lex_word.f a0 = some r) :
  Calls Tryd.prog 61 #[.int .u8 a0] w fun e w' => e = .returned (.bool r) ∧ Drawn0 w w' := by
 have H : ((lex_letter.f a0).bind fun t104 => (if t104 = true then (some true) else (if a0 ≥ 48 then (if a0 ≤ 57 then (some true) else (if a0 = 45 then (some true) else (some (a0 == 95)))) else (if a0 = 45 then (some true) else (some (a0 == 95)))))) = some r := h
 clear h
 replace H := Option.bind_eq_some_iff.mp H
 obtain ⟨t104, A20, H⟩ := H
 replace H : (if t104 = true then (some true) else (if a0 ≥ 48 then (if a0 ≤ 57 then (some true) else (if a0 = 45 then (some true) else (some (a0 == 95)))) else (if a0 = 45 then (some true) else (some (a0 == 95))))) = some r := H
 have A2 := Aside0.mk A20
 clear A20
 by_cases c3 : t104 = true
 ·subst c3
  have H1 : (some true) = some r := by rw [if_pos rfl] at H; exact H
  clear H
  have H := H1
  clear H1
  obtain rfl := Option.some.inj H
  go_enter Tryd.func61, Tryd.ntmps61
  go_wp2_with (first | ((with_reducible refine gate_callee (f := 60) rfl ?_); refine goesL_ (some 4) rfl rfl Tryd.func60 (by kernel_rfl) rfl #[.int .u8 a0] rfl (by (try simp only [List.map_toArray, List.map_cons, List.map_nil]); first | done | rfl | (simp only [List.length_drop, List.length_take]; rfl)) ?_; (with_reducible refine (lex_letter.calls a0 true _ A2.out).mono ?_); rintro e w' ⟨rfl, ⟨nd, rfl⟩⟩; refine ⟨_, rfl, ?_⟩))
  go_ret
  exact sTe2_3
 ·replace c3 := Bool.eq_false_iff.mpr c3
  subst c3
  have H1 : (if a0 ≥ 48 then (if a0 ≤ 57 then (some true) else (if a0 = 45 then (some true) else (some (a0 == 95)))) else (if a0 = 45 then (some true) else (some (a0 == 95)))) = some r := by rw [if_neg (show ¬ (false = true) by decide)] at H; exact H
  clear H
  have H := H1
  clear H1
  by_cases c4 : a0 ≥ 48
  ·rw [if_pos c4] at H
   have c4b0 : decide (48 ≤ a0) = true := decide_eq_true c4
   clear c4
   by_cases c5 : a0 ≤ 57
   ·rw [if_pos c5] at H
    have c5b0 : decide (a0 ≤ 57) = true := decide_eq_true c5
    clear c5
    obtain rfl := Option.some.inj H
    exact sTe2_0
   ·rw [if_neg c5] at H
    have c5b0 : decide (a0 ≤ 57) = false := decide_eq_false c5
    clear c5
    by_cases c6 : a0 = 45
    ·rw [if_pos c6] at H
     have c6b0 : (a0 == 45) = true := beq_iff_eq.mpr c6
     have c6b1 : (a0 != 45) = false := bne_eq_false_iff_eq.mpr c6
     clear c6
     obtain rfl := Option.some.inj H
     exact sTe2_0
    ·rw [if_neg c6] at H
     have c6b0 : (a0 == 45) = false := beq_eq_false_iff_ne.mpr c6
     have c6b1 : (a0 != 45) = true := bne_iff_ne.mpr c6
     obtain rfl := Option.some.inj H
     exact sTe2_0
  ·rw [if_neg c4] at H
   have c4b0 : decide (48 ≤ a0) = false := decide_eq_false c4
   clear c4
   by_cases c7 : a0 = 45
   ·rw [if_pos c7] at H
    have c7b0 : (a0 == 45) = true := beq_iff_eq.mpr c7
    have c7b1 : (a0 != 45) = false := bne_eq_false_iff_eq.mpr c7
    clear c7
    obtain rfl := Option.some.inj H
    exact sTe2_0
   ·rw [if_neg c7] at H
    have c7b0 : (a0 == 45) = false := beq_eq_false_iff_ne.mpr c7
    have c7b1 : (a0 != 45) = true := bne_iff_ne.mpr c7
    obtain rfl := Option.some.inj H
    exact sTe2_0
end Go.Proofs.YtngedmioeodmfaaDoor.Pr
namespace Go.Proofs.YtngedmioeodmfaaDoor.Lx
open Go.RowKit Go.Proofs.YtngedmioeodmfaaDoor.Pr Go.Proofs.YtngedmioeodmfaaDoorW.PrintWords Go.Proofs.YtngedmioeodmfaaDoorW.PrintLast Go.Proofs.YtngedmioeodmfaaDoorW.PrintMore
def Blk (w : World) (g : Nat) (s : ByteArray) (at_ : Int) (L : Value) : Prop := w.heap[g]? = some (.cells #[.string s, .int .i64 at_, L] 79 (0, 0))
theorem Blk.c0 {w g s at_ L} (h : Blk w g s at_ L) : w.cell? ⟨g, 0, none⟩ = some (.string s) := blk_cell h 0
theorem Blk.c1 {w g s at_ L} (h : Blk w g s at_ L) : w.cell? ⟨g, 1, none⟩ = some (.int .i64 at_) := blk_cell h 1
theorem Blk.c2 {w g s at_ L} (h : Blk w g s at_ L) : w.cell? ⟨g, 2, none⟩ = some L := blk_cell h 2
theorem Blk.fr {w g s at_ L} (h : Blk w g s at_ L) (i : Nat) : w.frozen? ⟨g, i, none⟩ = false := blk_frozen h i
theorem Blk.at1 {w g s at_ L} (h : Blk w g s at_ L) (a : Int) : Blk (w.setCell ⟨g, 1, none⟩ (.int .i64 a)) g s a L := by
 have := blk_set h 1 (.int .i64 a); simpa [Blk] using this
set_option maxHeartbeats 400000 in
theorem end_calls (s : ByteArray) (at_ : Int) (L : Value) (g : Nat) (w : World) (hb : Blk w g s at_ L) :
  Calls Tryd.prog 36 #[.pointer (some ⟨g, 0, none⟩)] w fun e w' => e = .returned (.bool (decide ((s.size : Int) ≤ at_))) ∧ Drawn0 w w' := by
 have c0 := hb.c0
 have c1 := hb.c1
 clear hb
 go_enter Tryd.func36, Tryd.ntmps36
 go_wp2
 go_quiet (fail)
 go_wp2
 go_ret
 exact ⟨rfl, ⟨_, rfl⟩⟩
structure Keep (w w' : World) (g : Nat) : Prop where
 k : KeepBut w w' g none
 b : Below g w w'
theorem Keep.refl (w : World) (g : Nat) : Keep w w g := ⟨KeepBut.refl _ _ _, Below.refl _ _⟩
theorem Keep.drewN {w w' : World} {g : Nat} (h : Keep w w' g) (n : Nat) : Keep w (w'.drewN n) g := ⟨keep_drewN h.k n, pw_below_drewN h.b n⟩
theorem Keep.set {w w' : World} {g : Nat} (h : Keep w w' g) (j : Nat) (u : Value) : Keep w (w'.setCell ⟨g, j, none⟩ u) g := ⟨KeepBut.set_ h.k j u, h.b.setCell (Nat.le_refl _) u⟩
theorem Keep.trans {w w1 w2 : World} {g : Nat} (h : Keep w w1 g) (k : Keep w1 w2 g) : Keep w w2 g := ⟨h.k.trans k.k (.inl rfl), h.b.trans k.b⟩
theorem quiet0 {P : Program} {f : FuncId} {args : Array Value} {w : World} {n : Nat} {v : Value}
  (h : Calls P f args (w.drewN n) fun e w' => e = .returned v ∧ Drawn0 (w.drewN n) w') : Calls P f args (w.drewN n) fun e w'' => e = .returned v ∧ ∃ m, w'' = w.drewN m :=
 Calls.quiet_of (h.mono fun _ _ ⟨he, ⟨m, hm⟩⟩ => ⟨he, m, hm⟩)
def rowEnd (s : ByteArray) (p : Int → Bool) : Nat → Nat → Nat
 | 0, i => i
 | d + 1, i => if i < s.size ∧ p (bt s i) = true then rowEnd s p d (i + 1) else i
theorem rowEnd_le (s : ByteArray) (p : Int → Bool) : ∀ d i, i ≤ s.size → i ≤ rowEnd s p d i ∧ rowEnd s p d i ≤ s.size := by
 intro d
 induction d with
 | zero => intro i h; exact ⟨Nat.le_refl _, h⟩
 | succ d ih =>
  intro i h
  rw [rowEnd]
  split
  ·rename_i q; have := ih (i + 1) (by omega); omega
  ·exact ⟨Nat.le_refl _, h⟩
theorem rowEnd_go (s : ByteArray) (p : Int → Bool) (i : Nat) (h : i < s.size) (hp : p (bt s i) = true) : rowEnd s p (s.size - i) i = rowEnd s p (s.size - (i + 1)) (i + 1) := by
 rw [show s.size - i = (s.size - (i + 1)) + 1 by omega, rowEnd, if_pos ⟨h, hp⟩]
theorem rowEnd_stop (s : ByteArray) (p : Int → Bool) (i : Nat) (h : ¬ (i < s.size ∧ p (bt s i) = true)) : rowEnd s p (s.size - i) i = i := by
 cases hd : s.size - i with
 | zero => rfl
 | succ d => rw [rowEnd, if_neg h]
set_option maxHeartbeats 1000000 in
set_option maxRecDepth 100000 in
theorem row_blank (s : ByteArray) (i0 : Nat) (L : Value) (g : Nat) (p : Int → Bool) (w : World) (hs : s.size ≤ 140737488351232) (hi0 : i0 ≤ s.size) (hb : Blk w g s i0 L)
  (hp : ∀ (c : Int) (w : World), 0 ≤ c → c ≤ 255 → Calls Tryd.prog 58 #[.int .u8 c] w fun e w' => e = .returned (.bool (p c)) ∧ Drawn0 w w') :
  Calls Tryd.prog 57 #[.pointer (some ⟨g, 0, none⟩), .func (.func 58) #[] #[]] w fun e w' =>
   e = .returned (.string (s.extract i0 (rowEnd s p (s.size - i0) i0))) ∧ Blk w' g s (rowEnd s p (s.size - i0) i0 : Nat) L ∧ Keep w w' g := by
 obtain ⟨R, hR⟩ : ∃ R, rowEnd s p (s.size - i0) i0 = R := ⟨_, rfl⟩
 have hR2 := rowEnd_le s p (s.size - i0) i0 hi0
 rw [hR] at hR2 ⊢
 have HR := Aside0.mk hR
 clear hR
 have c1 := hb.c1
 have HB := Aside0.mk hb
 have HP := Aside0.mk hp
 clear hp hb
 go_enter Tryd.func57, Tryd.ntmps57
 go_wp2
 go_loopg [] (s.size - i0) (fun gk w' => ∃ i : Nat, Aside0 (i ≤ s.size) ∧ Aside0 (i0 ≤ i) ∧ Aside0 (rowEnd s p (s.size - i) i = R) ∧ Aside0 (Blk w' g s i L) ∧ Aside0 (Keep w w' g) ∧ Aside0 (s.size - i ≤ gk))
 case atStart => exact ⟨i0, ⟨hi0⟩, ⟨Nat.le_refl _⟩, HR, HB, ⟨Keep.refl _ _⟩, ⟨Nat.le_refl _⟩⟩
 case round =>
  clear HR HB c1
  obtain ⟨i, Hi, Hi0, HR, HB, HK, HG⟩ := hrel
  have c0 := HB.out.c0
  have c1 := HB.out.c1
  have f1 := HB.out.fr 1
  have hi := Hi.out
  by_cases hlt : i < s.size
  ·have hlt2 : (i : Int) < (s.size : Int) := by omega
   have e1 : decide (s.size ≤ i) = false := decide_eq_false (by omega)
   have hr := bt_range s (i : Int)
   have hx : ∀ h : i < s.size, ((s[i]'h).toNat : Int) = bt s (i : Int) := fun h => bt_at s (i : Int) h
   cases hpi : p (bt s (i : Int)) with
   | true =>
    have HPI := Aside0.mk hpi
    have HPT := Aside0.mk (show ∀ W : World, Calls Tryd.prog 58 #[.int .u8 (bt s (i : Int))] W fun e w' => e = .returned (.bool true) ∧ Drawn0 W w' from fun W => hpi ▸ HP.out _ W hr.1 hr.2)
    clear hpi
    go_upto_region 2 with (fail)
    go_quiet (first | (go_at_call 36; exact quiet0 (end_calls s i L g _ (blk_drewN HB.out _))) | (go_at_call 58; exact quiet0 (HPT.out _)))
    go_wp2
    go_roundg (s.size - (i + 1))
    case measure => have := HG.out; omega
    case rel =>
     have hpi := HPI.out
     refine ⟨i + 1, ⟨by omega⟩, ⟨by have := Hi0.out; omega⟩, ⟨by rw [← rowEnd_go s p i hlt hpi]; exact HR.out⟩, ⟨?_⟩, ⟨?_⟩, ⟨Nat.le_refl _⟩⟩
     ·exact Blk.at1 (blk_drewN HB.out _) _
     ·exact Keep.set (HK.out.drewN _) _ _
   | false =>
    have HPI := Aside0.mk hpi
    have HPT := Aside0.mk (show ∀ W : World, Calls Tryd.prog 58 #[.int .u8 (bt s (i : Int))] W fun e w' => e = .returned (.bool false) ∧ Drawn0 W w' from fun W => hpi ▸ HP.out _ W hr.1 hr.2)
    clear hpi
    go_upto_region 2 with (fail)
    go_quiet (first | (go_at_call 36; exact quiet0 (end_calls s i L g _ (blk_drewN HB.out _))) | (go_at_call 58; exact quiet0 (HPT.out _)))
    go_wp2
    have hi0' := Hi0.out
    have hz1 : (i0 : Int) ≤ (i : Int) := by omega
    have hz2 : (i : Int) ≤ (s.size : Int) := by omega
    go_quiet (fail)
    go_wp2
    go_ret
    have e := (rowEnd_stop s p i (fun h => by rw [HPI.out] at h; cases h.2)).symm.trans HR.out
    subst e
    exact ⟨rfl, blk_drewN (blk_drewN HB.out _) _, (HK.out.drewN _).drewN _⟩
  ·exact sTe2_2
set_option maxHeartbeats 1000000 in
set_option maxRecDepth 100000 in
theorem row_nn (s : ByteArray) (i0 : Nat) (L : Value) (g : Nat) (p : Int → Bool) (w : World) (hs : s.size ≤ 140737488351232) (hi0 : i0 ≤ s.size) (hb : Blk w g s i0 L)
  (hp : ∀ (c : Int) (w : World), 0 ≤ c → c ≤ 255 → Calls Tryd.prog 59 #[.int .u8 c] w fun e w' => e = .returned (.bool (p c)) ∧ Drawn0 w w') :
  Calls Tryd.prog 57 #[.pointer (some ⟨g, 0, none⟩), .func (.func 59) #[] #[]] w fun e w' =>
   e = .returned (.string (s.extract i0 (rowEnd s p (s.size - i0) i0))) ∧ Blk w' g s (rowEnd s p (s.size - i0) i0 : Nat) L ∧ Keep w w' g := by
 obtain ⟨R, hR⟩ : ∃ R, rowEnd s p (s.size - i0) i0 = R := ⟨_, rfl⟩
 have hR2 := rowEnd_le s p (s.size - i0) i0 hi0
 rw [hR] at hR2 ⊢
 have HR := Aside0.mk hR
 clear hR
 have c1 := hb.c1
 have HB := Aside0.mk hb
 have HP := Aside0.mk hp
 clear hp hb
 go_enter Tryd.func57, Tryd.ntmps57
 go_wp2
 go_loopg [] (s.size - i0) (fun gk w' => ∃ i : Nat, Aside0 (i ≤ s.size) ∧ Aside0 (i0 ≤ i) ∧ Aside0 (rowEnd s p (s.size - i) i = R) ∧ Aside0 (Blk w' g s i L) ∧ Aside0 (Keep w w' g) ∧ Aside0 (s.size - i ≤ gk))
 case atStart => exact ⟨i0, ⟨hi0⟩, ⟨Nat.le_refl _⟩, HR, HB, ⟨Keep.refl _ _⟩, ⟨Nat.le_refl _⟩⟩
 case round =>
  clear HR HB c1
  obtain ⟨i, Hi, Hi0, HR, HB, HK, HG⟩ := hrel
  have c0 := HB.out.c0
  have c1 := HB.out.c1
  have f1 := HB.out.fr 1
  have hi := Hi.out
  by_cases hlt : i < s.size
  ·have hlt2 : (i : Int) < (s.size : Int) := by omega
   have e1 : decide (s.size ≤ i) = false := decide_eq_false (by omega)
   have hr := bt_range s (i : Int)
   have hx : ∀ h : i < s.size, ((s[i]'h).toNat : Int) = bt s (i : Int) := fun h => bt_at s (i : Int) h
   cases hpi : p (bt s (i : Int)) with
   | true =>
    have HPI := Aside0.mk hpi
    have HPT := Aside0.mk (show ∀ W : World, Calls Tryd.prog 59 #[.int .u8 (bt s (i : Int))] W fun e w' => e = .returned (.bool true) ∧ Drawn0 W w' from fun W => hpi ▸ HP.out _ W hr.1 hr.2)
    clear hpi
    go_upto_region 2 with (fail)
    go_quiet (first | (go_at_call 36; exact quiet0 (end_calls s i L g _ (blk_drewN HB.out _))) | (go_at_call 59; exact quiet0 (HPT.out _)))
    go_wp2
    go_roundg (s.size - (i + 1))
    case measure => have := HG.out; omega
    case rel =>
     have hpi := HPI.out
     refine ⟨i + 1, ⟨by omega⟩, ⟨by have := Hi0.out; omega⟩, ⟨by rw [← rowEnd_go s p i hlt hpi]; exact HR.out⟩, ⟨?_⟩, ⟨?_⟩, ⟨Nat.le_refl _⟩⟩
     ·exact Blk.at1 (blk_drewN HB.out _) _
     ·exact Keep.set (HK.out.drewN _) _ _
   | false =>
    have HPI := Aside0.mk hpi
    have HPT := Aside0.mk (show ∀ W : World, Calls Tryd.prog 59 #[.int .u8 (bt s (i : Int))] W fun e w' => e = .returned (.bool false) ∧ Drawn0 W w' from fun W => hpi ▸ HP.out _ W hr.1 hr.2)
    clear hpi
    go_upto_region 2 with (fail)
    go_quiet (first | (go_at_call 36; exact quiet0 (end_calls s i L g _ (blk_drewN HB.out _))) | (go_at_call 59; exact quiet0 (HPT.out _)))
    go_wp2
    have hi0' := Hi0.out
    have hz1 : (i0 : Int) ≤ (i : Int) := by omega
    have hz2 : (i : Int) ≤ (s.size : Int) := by omega
    go_quiet (fail)
    go_wp2
    go_ret
    have e := (rowEnd_stop s p i (fun h => by rw [HPI.out] at h; cases h.2)).symm.trans HR.out
    subst e
    exact ⟨rfl, blk_drewN (blk_drewN HB.out _) _, (HK.out.drewN _).drewN _⟩
  ·exact sTe2_2
set_option maxHeartbeats 1000000 in
set_option maxRecDepth 100000 in
theorem row_word (s : ByteArray) (i0 : Nat) (L : Value) (g : Nat) (p : Int → Bool) (w : World) (hs : s.size ≤ 140737488351232) (hi0 : i0 ≤ s.size) (hb : Blk w g s i0 L)
  (hp : ∀ (c : Int) (w : World), 0 ≤ c → c ≤ 255 → Calls Tryd.prog 61 #[.int .u8 c] w fun e w' => e = .returned (.bool (p c)) ∧ Drawn0 w w') :
  Calls Tryd.prog 57 #[.pointer (some ⟨g, 0, none⟩), .func (.func 61) #[] #[]] w fun e w' =>
   e = .returned (.string (s.extract i0 (rowEnd s p (s.size - i0) i0))) ∧ Blk w' g s (rowEnd s p (s.size - i0) i0 : Nat) L ∧ Keep w w' g := by
 obtain ⟨R, hR⟩ : ∃ R, rowEnd s p (s.size - i0) i0 = R := ⟨_, rfl⟩
 have hR2 := rowEnd_le s p (s.size - i0) i0 hi0
 rw [hR] at hR2 ⊢
 have HR := Aside0.mk hR
 clear hR
 have c1 := hb.c1
 have HB := Aside0.mk hb
 have HP := Aside0.mk hp
 clear hp hb
 go_enter Tryd.func57, Tryd.ntmps57
 go_wp2
 go_loopg [] (s.size - i0) (fun gk w' => ∃ i : Nat, Aside0 (i ≤ s.size) ∧ Aside0 (i0 ≤ i) ∧ Aside0 (rowEnd s p (s.size - i) i = R) ∧ Aside0 (Blk w' g s i L) ∧ Aside0 (Keep w w' g) ∧ Aside0 (s.size - i ≤ gk))
 case atStart => exact ⟨i0, ⟨hi0⟩, ⟨Nat.le_refl _⟩, HR, HB, ⟨Keep.refl _ _⟩, ⟨Nat.le_refl _⟩⟩
 case round =>
  clear HR HB c1
  obtain ⟨i, Hi, Hi0, HR, HB, HK, HG⟩ := hrel
  have c0 := HB.out.c0
  have c1 := HB.out.c1
  have f1 := HB.out.fr 1
  have hi := Hi.out
  by_cases hlt : i < s.size
  ·have hlt2 : (i : Int) < (s.size : Int) := by omega
   have e1 : decide (s.size ≤ i) = false := decide_eq_false (by omega)
   have hr := bt_range s (i : Int)
   have hx : ∀ h : i < s.size, ((s[i]'h).toNat : Int) = bt s (i : Int) := fun h => bt_at s (i : Int) h
   cases hpi : p (bt s (i : Int)) with
   | true =>
    have HPI := Aside0.mk hpi
    have HPT := Aside0.mk (show ∀ W : World, Calls Tryd.prog 61 #[.int .u8 (bt s (i : Int))] W fun e w' => e = .returned (.bool true) ∧ Drawn0 W w' from fun W => hpi ▸ HP.out _ W hr.1 hr.2)
    clear hpi
    go_upto_region 2 with (fail)
    go_quiet (first | (go_at_call 36; exact quiet0 (end_calls s i L g _ (blk_drewN HB.out _))) | (go_at_call 61; exact quiet0 (HPT.out _)))
    go_wp2
    go_roundg (s.size - (i + 1))
    case measure => have := HG.out; omega
    case rel =>
     have hpi := HPI.out
     refine ⟨i + 1, ⟨by omega⟩, ⟨by have := Hi0.out; omega⟩, ⟨by rw [← rowEnd_go s p i hlt hpi]; exact HR.out⟩, ⟨?_⟩, ⟨?_⟩, ⟨Nat.le_refl _⟩⟩
     ·exact Blk.at1 (blk_drewN HB.out _) _
     ·exact Keep.set (HK.out.drewN _) _ _
   | false =>
    have HPI := Aside0.mk hpi
    have HPT := Aside0.mk (show ∀ W : World, Calls Tryd.prog 61 #[.int .u8 (bt s (i : Int))] W fun e w' => e = .returned (.bool false) ∧ Drawn0 W w' from fun W => hpi ▸ HP.out _ W hr.1 hr.2)
    clear hpi
    go_upto_region 2 with (fail)
    go_quiet (first | (go_at_call 36; exact quiet0 (end_calls s i L g _ (blk_drewN HB.out _))) | (go_at_call 61; exact quiet0 (HPT.out _)))
    go_wp2
    have hi0' := Hi0.out
    have hz1 : (i0 : Int) ≤ (i : Int) := by omega
    have hz2 : (i : Int) ≤ (s.size : Int) := by omega
    go_quiet (fail)
    go_wp2
    go_ret
    have e := (rowEnd_stop s p i (fun h => by rw [HPI.out] at h; cases h.2)).symm.trans HR.out
    subst e
    exact ⟨rfl, blk_drewN (blk_drewN HB.out _) _, (HK.out.drewN _).drewN _⟩
  ·exact sTe2_2
def pBlank (c : Int) : Bool := (lex_blank.f c).getD false
def pWord (c : Int) : Bool := (lex_word.f c).getD false
def pLetter (c : Int) : Bool := (lex_letter.f c).getD false
def pNN (c : Int) : Bool := c != 10
theorem pBlank_some (c : Int) (h0 : 0 ≤ c) (h1 : c ≤ 255) : lex_blank.f c = some (pBlank c) := by
 have h : ∀ q : Fin 256, lex_blank.f (q.val : Int) = some (pBlank (q.val : Int)) := by decide +kernel
 obtain ⟨q, rfl⟩ : ∃ q : Fin 256, (q.val : Int) = c := ⟨⟨c.toNat, by omega⟩, by simp; omega⟩
 exact h q
theorem pWord_some (c : Int) (h0 : 0 ≤ c) (h1 : c ≤ 255) : lex_word.f c = some (pWord c) := by
 have h : ∀ q : Fin 256, lex_word.f (q.val : Int) = some (pWord (q.val : Int)) := by decide +kernel
 obtain ⟨q, rfl⟩ : ∃ q : Fin 256, (q.val : Int) = c := ⟨⟨c.toNat, by omega⟩, by simp; omega⟩
 exact h q
theorem pLetter_some (c : Int) (h0 : 0 ≤ c) (h1 : c ≤ 255) : lex_letter.f c = some (pLetter c) := by
 have h : ∀ q : Fin 256, lex_letter.f (q.val : Int) = some (pLetter (q.val : Int)) := by decide +kernel
 obtain ⟨q, rfl⟩ : ∃ q : Fin 256, (q.val : Int) = c := ⟨⟨c.toNat, by omega⟩, by simp; omega⟩
 exact h q
theorem hBlank (c : Int) (w : World) (h0 : 0 ≤ c) (h1 : c ≤ 255) : Calls Tryd.prog 58 #[.int .u8 c] w fun e w' => e = .returned (.bool (pBlank c)) ∧ Drawn0 w w' := lex_blank.calls c _ w (pBlank_some c h0 h1)
theorem hWord (c : Int) (w : World) (h0 : 0 ≤ c) (h1 : c ≤ 255) : Calls Tryd.prog 61 #[.int .u8 c] w fun e w' => e = .returned (.bool (pWord c)) ∧ Drawn0 w w' := lex_word.calls c _ w (pWord_some c h0 h1)
theorem hNN (c : Int) (w : World) (h0 : 0 ≤ c) (h1 : c ≤ 255) : Calls Tryd.prog 59 #[.int .u8 c] w fun e w' => e = .returned (.bool (pNN c)) ∧ Drawn0 w w' := by
 go_enter Tryd.func59, Tryd.ntmps59
 go_wp2
 go_ret
 exact ⟨rfl, Drawn0.refl _⟩
def bEnd (s : ByteArray) (i : Nat) : Nat := rowEnd s pBlank (s.size - i) i
def nEnd (s : ByteArray) (i : Nat) : Nat := rowEnd s pNN (s.size - i) i
def wEnd (s : ByteArray) (i : Nat) : Nat := rowEnd s pWord (s.size - i) i
theorem bEnd_le (s : ByteArray) (i : Nat) (h : i ≤ s.size) : i ≤ bEnd s i ∧ bEnd s i ≤ s.size := rowEnd_le s _ _ i h
theorem nEnd_le (s : ByteArray) (i : Nat) (h : i ≤ s.size) : i ≤ nEnd s i ∧ nEnd s i ≤ s.size := rowEnd_le s _ _ i h
theorem wEnd_le (s : ByteArray) (i : Nat) (h : i ≤ s.size) : i ≤ wEnd s i ∧ wEnd s i ≤ s.size := rowEnd_le s _ _ i h
theorem nEnd_lt (s : ByteArray) (i : Nat) (h : i < s.size) (hc : bt s i = 35) : i < nEnd s i := by
 have e : nEnd s i = rowEnd s pNN (s.size - (i + 1)) (i + 1) := rowEnd_go s pNN i h (by rw [hc]; rfl)
 have := rowEnd_le s pNN (s.size - (i + 1)) (i + 1) (by omega)
 omega
def btw2 (s : ByteArray) : Nat → Nat → Nat
 | 0, i => i
 | d + 1, i => if i < s.size ∧ bt s i = 35 then btw2 s d (bEnd s (nEnd s i)) else i
def btw (s : ByteArray) (i : Nat) : Nat := btw2 s (s.size - bEnd s i) (bEnd s i)
theorem btw2_le (s : ByteArray) : ∀ d i, i ≤ s.size → i ≤ btw2 s d i ∧ btw2 s d i ≤ s.size := by
 intro d
 induction d with
 | zero => intro i h; exact ⟨Nat.le_refl _, h⟩
 | succ d ih =>
  intro i h
  rw [btw2]
  split
  ·have h1 := nEnd_le s i h
   have h2 := bEnd_le s (nEnd s i) h1.2
   have := ih (bEnd s (nEnd s i)) h2.2
   omega
  ·exact ⟨Nat.le_refl _, h⟩
theorem btw_le (s : ByteArray) (i : Nat) (h : i ≤ s.size) : i ≤ btw s i ∧ btw s i ≤ s.size := by
 have h1 := bEnd_le s i h
 have := btw2_le s (s.size - bEnd s i) (bEnd s i) h1.2
 unfold btw; omega
theorem btw2_more (s : ByteArray) : ∀ d d' i, i ≤ s.size → s.size - i ≤ d → s.size - i ≤ d' → btw2 s d i = btw2 s d' i := by
 intro d
 induction d with
 | zero =>
  intro d' i hi h h'
  cases d' with
  | zero => rfl
  | succ d' => rw [btw2, btw2, if_neg (by omega)]
 | succ d ih =>
  intro d' i hi h h'
  cases d' with
  | zero => rw [btw2, btw2, if_neg (by omega)]
  | succ d' =>
   rw [btw2, btw2]
   by_cases q : i < s.size ∧ bt s i = 35
   ·have h1 := nEnd_le s i hi
    have h2 := bEnd_le s (nEnd s i) h1.2
    have h3 := nEnd_lt s i q.1 q.2
    rw [if_pos q, if_pos q]
    exact ih d' _ h2.2 (by omega) (by omega)
   ·rw [if_neg q, if_neg q]
theorem btw2_go (s : ByteArray) (i : Nat) (h : i < s.size) (hc : bt s i = 35) : btw2 s (s.size - i) i = btw2 s (s.size - bEnd s (nEnd s i)) (bEnd s (nEnd s i)) := by
 have h1 := nEnd_le s i (by omega)
 have h2 := bEnd_le s (nEnd s i) h1.2
 have h3 := nEnd_lt s i h hc
 rw [show s.size - i = (s.size - i - 1) + 1 by omega, btw2, if_pos ⟨h, hc⟩]
 exact btw2_more s _ _ _ h2.2 (by omega) (by omega)
theorem btw2_stop (s : ByteArray) (d i : Nat) (h : ¬ (i < s.size ∧ bt s i = 35)) : btw2 s d i = i := by
 cases d with
 | zero => rfl
 | succ d => rw [btw2, if_neg h]
set_option maxHeartbeats 1000000 in
set_option maxRecDepth 100000 in
theorem between_calls (s : ByteArray) (i0 : Nat) (L : Value) (g : Nat) (w : World) (hs : s.size ≤ 140737488351232) (hi0 : i0 ≤ s.size) (hb : Blk w g s i0 L) :
  Calls Tryd.prog 35 #[.pointer (some ⟨g, 0, none⟩)] w fun e w' =>
   e = .returned (.tuple #[]) ∧ Blk w' g s (btw s i0 : Nat) L ∧ Keep w w' g := by
 obtain ⟨R, hR⟩ : ∃ R, btw2 s (s.size - bEnd s i0) (bEnd s i0) = R := ⟨_, rfl⟩
 have hRb : btw s i0 = R := hR
 rw [hRb]
 clear hRb
 have HR := Aside0.mk hR
 have HB := Aside0.mk hb
 have HS := Aside0.mk hs
 have HI := Aside0.mk hi0
 clear hR hb
 go_enter Tryd.func35, Tryd.ntmps35
 go_wp2_with fail
 refine (row_blank s i0 L g pBlank _ hs hi0 HB.out hBlank).mono ?_
 rintro e w1 ⟨rfl, hb1, hk1⟩
 have HB1 := Aside0.mk hb1
 have HK1 := Aside0.mk hk1
 clear hb1 hk1
 go_wp2
 go_loopg [] (s.size - bEnd s i0) (fun gk w' => ∃ i : Nat, Aside0 (i ≤ s.size) ∧ Aside0 (btw2 s (s.size - i) i = R) ∧ Aside0 (Blk w' g s i L) ∧ Aside0 (Keep w w' g) ∧ Aside0 (s.size - i ≤ gk))
 case atStart => exact ⟨bEnd s i0, ⟨(bEnd_le s i0 HI.out).2⟩, HR, HB1, HK1, ⟨Nat.le_refl _⟩⟩
 case round =>
  clear HR HB HB1 HK1
  obtain ⟨i, Hi, HR, HB, HK, HG⟩ := hrel
  have c0 := HB.out.c0
  have c1 := HB.out.c1
  have hi := Hi.out
  by_cases hlt : i < s.size
  ·have e1 : decide (s.size ≤ i) = false := decide_eq_false (by omega)
   have hlt2 : (i : Int) < (s.size : Int) := by omega
   have hx : ∀ h : i < s.size, ((s[i]'h).toNat : Int) = bt s (i : Int) := fun h => bt_at s (i : Int) h
   by_cases hc : bt s (i : Int) = 35
   ·have hc0 : (bt s (i : Int) == 35) = true := beq_iff_eq.mpr hc
    have HC := Aside0.mk hc
    clear hc
    go_upto_region 1 with (fail)
    go_quiet ((go_at_call 36; exact quiet0 (end_calls s i L g _ (blk_drewN HB.out _))))
    clear c0 c1 hx hc0 e1
    go_wp2_with fail
    refine (row_nn s i L g pNN _ HS.out hi (blk_drewN HB.out _) hNN).mono ?_
    rintro e w2 ⟨rfl, hb2, hk2⟩
    have HB2 := Aside0.mk hb2
    have HK2 := Aside0.mk hk2
    clear hb2 hk2
    go_wp2_with fail
    refine (row_blank s (nEnd s i) L g pBlank _ HS.out (nEnd_le s i hi).2 HB2.out hBlank).mono ?_
    rintro e w3 ⟨rfl, hb3, hk3⟩
    have HB3 := Aside0.mk hb3
    have HK3 := Aside0.mk hk3
    clear hb3 hk3
    go_wp2
    go_roundg (s.size - bEnd s (nEnd s i))
    case measure =>
     have h1 := nEnd_le s i hi
     have h2 := bEnd_le s (nEnd s i) h1.2
     have h3 := nEnd_lt s i hlt HC.out
     have := HG.out; omega
    case rel =>
     have h1 := nEnd_le s i hi
     have h2 := bEnd_le s (nEnd s i) h1.2
     exact ⟨bEnd s (nEnd s i), ⟨h2.2⟩, ⟨by rw [← btw2_go s i hlt HC.out]; exact HR.out⟩, HB3, ⟨(HK.out.drewN _).trans (HK2.out.trans HK3.out)⟩, ⟨Nat.le_refl _⟩⟩
   ·have hc0 : (bt s (i : Int) == 35) = false := beq_eq_false_iff_ne.mpr hc
    have HC := Aside0.mk hc
    clear hc
    go_upto_region 1 with (fail)
    go_quiet ((go_at_call 36; exact quiet0 (end_calls s i L g _ (blk_drewN HB.out _))))
    go_wp2
    go_end0
    have e := (btw2_stop s _ i (fun h => HC.out h.2)).symm.trans HR.out
    subst e
    exact ⟨rfl, blk_drewN HB.out _, HK.out.drewN _⟩
  ·have e1 : decide (s.size ≤ i) = true := decide_eq_true (by omega)
   go_upto_region 1 with (fail)
   go_quiet ((go_at_call 36; exact quiet0 (end_calls s i L g _ (blk_drewN HB.out _))))
   go_wp2
   go_end0
   have e := (btw2_stop s _ i (fun h => hlt h.1)).symm.trans HR.out
   subst e
   exact ⟨rfl, blk_drewN HB.out _, HK.out.drewN _⟩
theorem Keep.below {w w1 w2 : World} {g : Nat} (h : Keep w w1 g) (hb : Below w.heap.size w1 w2) (hg : g < w.heap.size) : Keep w w2 g :=
 ⟨⟨Nat.le_trans h.k.1 hb.size, fun i hi hne hr => (hb.block i hi).trans (h.k.2 i hi hne hr)⟩, h.b.trans (hb.mono (Nat.le_of_lt hg))⟩
def quo (s : ByteArray) : Nat → Nat → List Int → (List Int × Nat × Bool)
 | 0, i, _ => ([], i, false)
 | d + 1, i, out =>
  if i < s.size then
   if bt s i = 34 then (out, i + 1, true)
   else if bt s i = 10 then ([], i, false)
   else if bt s i = 92 then
    if i + 1 = s.size then ([], i + 1, false)
    else if bt s ((i + 1 : Nat) : Int) = 34 ∨ bt s ((i + 1 : Nat) : Int) = 92 then quo s d (i + 2) (out ++ [bt s ((i + 1 : Nat) : Int)])
    else ([], i, false)
   else quo s d (i + 1) (out ++ [bt s i])
  else ([], i, false)
def quoE (s : ByteArray) (i : Nat) (out : List Int) : List Int × Nat × Bool := quo s (s.size - i) i out
theorem quo_more (s : ByteArray) : ∀ d d' i out, s.size - i ≤ d → s.size - i ≤ d' → quo s d i out = quo s d' i out := by
 intro d
 induction d with
 | zero => intro d' i out h h'; cases d' with
  | zero => rfl
  | succ d' => rw [quo, quo, if_neg (by omega)]
 | succ d ih =>
  intro d' i out h h'
  cases d' with
  | zero => rw [quo, quo, if_neg (by omega)]
  | succ d' =>
   rw [quo, quo]
   by_cases q : i < s.size
   ·rw [if_pos q, if_pos q, ih d' (i + 1) _ (by omega) (by omega), ih d' (i + 2) _ (by omega) (by omega)]
   ·rw [if_neg q, if_neg q]
theorem quoE_step (s : ByteArray) (i : Nat) (out : List Int) (h : i < s.size) : quoE s i out =
   if bt s i = 34 then (out, i + 1, true)
   else if bt s i = 10 then ([], i, false)
   else if bt s i = 92 then
    if i + 1 = s.size then ([], i + 1, false)
    else if bt s ((i + 1 : Nat) : Int) = 34 ∨ bt s ((i + 1 : Nat) : Int) = 92 then quoE s (i + 2) (out ++ [bt s ((i + 1 : Nat) : Int)])
    else ([], i, false)
   else quoE s (i + 1) (out ++ [bt s i]) := by
 unfold quoE
 rw [show s.size - i = (s.size - i - 1) + 1 by omega, quo, if_pos h, quo_more s (s.size - i - 1) (s.size - (i + 1)) (i + 1) _ (by omega) (by omega), quo_more s (s.size - i - 1) (s.size - (i + 2)) (i + 2) _ (by omega) (by omega)]
theorem quoE_end (s : ByteArray) (i : Nat) (out : List Int) (h : ¬ i < s.size) : quoE s i out = ([], i, false) := by
 unfold quoE; rw [show s.size - i = 0 by omega, quo]
end Go.Proofs.YtngedmioeodmfaaDoor.Lx
namespace Go.Proofs.YtngedmioeodmfaaDoor.Lx
open Go.RowKit Go.Proofs.YtngedmioeodmfaaDoor.Pr Go.Proofs.YtngedmioeodmfaaDoorW.PrintWords Go.Proofs.YtngedmioeodmfaaDoorW.PrintLast Go.Proofs.YtngedmioeodmfaaDoorW.PrintMore
theorem infoB : (Tryd.prog.info? 5).map (fun i => (i.zero, i.size, i.bytes)) = some (some (.int .u8 0), 1, 1) := by kernel_rfl
section
variable {ops : Array Oper} {rest : List Oper} {o : Oper} {a : Act} {Q : Exit → Act → World → Prop}
theorem app_u8 {W : World} (base g : Nat) (hgd : o.guard = none) (s x : Operand)
  (ho : o.op = .call { callee := .builtin .append, args := #[s, x], argTypes := #[100, 100] })
  (v : Value) (xs : List Int) (p : Int) (hs : a.eval s = v) (hx : a.eval x = .slice (some ⟨W.heap.size, 0, none⟩) 1 1) (hg : g < W.heap.size)
  (HO : Kd.R (Kd.int .u8) 5 W base (fun k => k ≠ g) v xs) (hbase : base ≤ W.heap.size) (hl : xs.length + 1 ≤ 140737488355328)
  (h : ∀ v1 w1, Kd.R (Kd.int .u8) 5 w1 base (fun k => k ≠ g) v1 (xs ++ [p]) → Below base W w1 → W.grownBy w1 v.ownBlock → wpList Tryd.prog ops Q rest (a.put o.dst v1) w1) :
  wpList Tryd.prog ops Q (o :: rest) a (W.alloc (.cells #[.int .u8 p] 5)) := by
 have := Kd.R_append (P := Tryd.prog) (ops := ops) (rest := rest) (o := o) (a := a) (Q := Q) (Kd.int .u8) (w0 := W) (W := W) base hgd s x 100 5 (.int .u8 0) 1 ho Tryd.underlying100 infoB rfl (by decide) (by omega) v xs p [.int .u8 p] (fun k => k ≠ g) (fun _ => False) hs hx rfl (fun _ hk => hk.elim) (fun k hk => by omega) HO (Below.refl _ _) hbase (by omega) (fun v1 w1 h1 h2 h3 _ => h v1 w1 h1 h2 h3)
 exact this
end
set_option maxHeartbeats 4000000 in
set_option maxRecDepth 100000 in
theorem quoted_calls (s : ByteArray) (i0 : Nat) (L : Value) (g : Nat) (w : World) (hs : s.size ≤ 140737488351232) (hi0 : i0 < s.size) (hb : Blk w g s i0 L) (ro : List Int) (rj : Nat) (rb : Bool) (hR : quoE s (i0 + 1) [] = (ro, rj, rb)) :
  Calls Tryd.prog 62 #[.pointer (some ⟨g, 0, none⟩)] w fun e w' =>
   e = .returned (.tuple #[.string (strOfNums ro), .bool rb]) ∧ Blk w' g s (rj : Nat) L ∧ Keep w w' g := by
 have hg := blk_lt hb
 have c1 := hb.c1
 have f1 := hb.fr 1
 have HR := Aside0.mk hR
 have HB := Aside0.mk hb
 have HS := Aside0.mk hs
 have HI := Aside0.mk hi0
 have HG0 := Aside0.mk hg
 clear hR hb hg
 go_enter Tryd.func62, Tryd.ntmps62
 go_wp2
 go_loopg [4] (s.size) (fun gk v4 w' => ∃ (i : Nat) (out : List Int), Aside0 (i ≤ s.size) ∧ Aside0 (quoE s i out = (ro, rj, rb)) ∧ Aside0 (Blk w' g s i L) ∧ Aside0 (Keep w w' g) ∧ Aside0 (Kd.R (Kd.int .u8) 5 w' w.heap.size (fun k => k ≠ g) v4 out) ∧ Aside0 (out.length ≤ i) ∧ Aside0 (s.size - i ≤ gk))
 case atStart =>
  refine ⟨i0 + 1, [], ⟨by have := HI.out; omega⟩, HR, ⟨?_⟩, ⟨?_⟩, ⟨Kd.R_nil _ _ _ _ _⟩, ⟨by simp⟩, ⟨by omega⟩⟩
  ·exact Blk.at1 HB.out _
  ·exact Keep.set (Keep.refl _ _) _ _
 case round =>
  clear HR HB c1 f1
  obtain ⟨i, out, Hi, HR, HB, HK, HO, HL, HG⟩ := hrel
  have c0 := HB.out.c0
  have c1 := HB.out.c1
  have f1 := HB.out.fr 1
  have hi := Hi.out
  by_cases hlt : i < s.size
  ·have e1 : decide (s.size ≤ i) = false := decide_eq_false (by omega)
   have hlt2 : (i : Int) < (s.size : Int) := by omega
   have hx : ∀ h : i < s.size, ((s[i]'h).toNat : Int) = bt s (i : Int) := fun h => bt_at s (i : Int) h
   have hst := quoE_step s i out hlt
   rw [HR.out] at hst
   by_cases q34 : bt s (i : Int) = 34
   ·rw [if_pos q34] at hst
    have b34 : (bt s (i : Int) == 34) = true := beq_iff_eq.mpr q34
    simp only [Prod.mk.injEq] at hst
    obtain ⟨rfl, rfl, rfl⟩ := hst
    clear q34
    have hcv := fun (n m : Nat) => own_string (P := Tryd.prog) Tryd.underlying100 Tryd.underlying5 Tryd.underlying9 (Kd.own_of_R (Kd.R_far (Kd.R_drewN HO.out (n + m)) (p := ⟨g, 1, none⟩) (fun k hk => hk) (.int .i64 ((i : Int) + 1))))
    go_wp2_with (go_at_call 36; refine (end_calls s i L g _ HB.out).mono ?_; rintro e w' ⟨rfl, ⟨n, rfl⟩⟩)
    go_quiet (fail)
    have hcv2 := hcv n nq
    clear hcv
    go_wp2
    go_ret2
    exact ⟨rfl, Blk.at1 HB.out _, Keep.set (HK.out.drewN _) _ _⟩
   have b34 : (bt s (i : Int) == 34) = false := beq_eq_false_iff_ne.mpr q34
   rw [if_neg q34] at hst
   clear q34
   by_cases q10 : bt s (i : Int) = 10
   ·rw [if_pos q10] at hst
    have b10 : (bt s (i : Int) == 10) = true := beq_iff_eq.mpr q10
    simp only [Prod.mk.injEq] at hst
    obtain ⟨rfl, h2, rfl⟩ := hst
    obtain rfl : i = rj := h2.symm
    clear q10
    go_wp2_with (go_at_call 36; refine (end_calls s i L g _ HB.out).mono ?_; rintro e w' ⟨rfl, ⟨n, rfl⟩⟩)
    go_quiet (fail)
    go_wp2
    go_ret2
    exact ⟨rfl, HB.out, HK.out.drewN _⟩
   have b10 : (bt s (i : Int) == 10) = false := beq_eq_false_iff_ne.mpr q10
   rw [if_neg q10] at hst
   clear q10
   by_cases q92 : bt s (i : Int) = 92
   ·rw [if_pos q92] at hst
    have b92 : (bt s (i : Int) == 92) = true := beq_iff_eq.mpr q92
    clear q92
    by_cases qe : i + 1 = s.size
    ·rw [if_pos qe] at hst
     have be : ((i : Int) + 1 == (s.size : Int)) = true := beq_iff_eq.mpr (by omega)
     clear qe
     simp only [Prod.mk.injEq] at hst
     obtain ⟨rfl, rfl, rfl⟩ := hst
     go_wp2_with (go_at_call 36; refine (end_calls s i L g _ HB.out).mono ?_; rintro e w' ⟨rfl, ⟨n, rfl⟩⟩)
     go_quiet (fail)
     go_wp2
     go_quiet (fail)
     go_wp2
     go_ret2
     exact ⟨rfl, Blk.at1 HB.out _, Keep.set (HK.out.drewN _) _ _⟩
    rw [if_neg qe] at hst
    have be : ((i : Int) + 1 == (s.size : Int)) = false := beq_eq_false_iff_ne.mpr (by omega)
    have hlt3 : (i : Int) + 1 < (s.size : Int) := by omega
    have hlt4 : i + 1 < s.size := by omega
    have hx1 : ∀ h : i + 1 < s.size, ((s[i + 1]'h).toNat : Int) = bt s ((i + 1 : Nat) : Int) := fun h => bt_at s ((i + 1 : Nat) : Int) h
    clear qe
    obtain ⟨c, hc⟩ : ∃ c, bt s ((i + 1 : Nat) : Int) = c := ⟨_, rfl⟩
    rw [hc] at hst hx1
    have hcr := bt_range s ((i + 1 : Nat) : Int)
    rw [hc] at hcr
    have HC := Aside0.mk hc
    clear hc
    by_cases q2 : c = 34 ∨ c = 92
    ·rw [if_pos q2] at hst
     have HST := Aside0.mk hst
     clear hst
     have HQ : (c != 34) = false ∨ ((c != 34) = true ∧ (c != 92) = false) := by
      by_cases h : c = 34
      ·exact .inl (bne_eq_false_iff_eq.mpr h)
      ·exact .inr ⟨bne_iff_ne.mpr h, bne_eq_false_iff_eq.mpr (q2.resolve_left h)⟩
     clear q2
     rcases HQ with hq | ⟨hq, hq2⟩
     all_goals
      go_wp2_with (go_at_call 36; refine (end_calls s i L g _ HB.out).mono ?_; rintro e w' ⟨rfl, ⟨n, rfl⟩⟩)
      go_quiet (fail)
      go_wp2
      go_quiet (fail)
      go_wp2
      go_quiet (fail)
      go_wp2_with (at_builtin; refine app_u8 w.heap.size g rfl (.tmp 111) (.tmp 113) rfl u4 out (c) rfl ?aX ?aG ?aO ?aS ?aL ?_; (case aX => first | rfl | (simp [Act.eval])); (case aG => have := HG0.out; have := HK.out.k.1; simp; omega); (case aO => exact Kd.R_far (Kd.R_drewN HO.out _) (fun k hk => hk) _); (case aS => have := HK.out.k.1; simp; omega); (case aL => have := HL.out; have := HS.out; omega); intro v1 w1 ho hb1 hg1; have hB1 : Blk w1 g s ((i : Int) + 1) L := (by refine blk_grown ?_ hg1 (Kd.R_away HO.out (fun k hk => hk)); exact Blk.at1 HB.out _); have hK1 : Keep w w1 g := (by refine Keep.below ?_ hb1 HG0.out; exact Keep.set (HK.out.drewN _) _ _); have c1' := hB1.c1; have f1' := hB1.fr 1; have HO1 := Aside0.mk ho; have HB1 := Aside0.mk hB1; have HK1 := Aside0.mk hK1; clear ho hb1 hg1 hB1 hK1)
      go_roundg (s.size - (i + 2))
      case measure => have := HG.out; omega
      case rel =>
       refine ⟨i + 2, out ++ [c], ⟨by omega⟩, ⟨HST.out.symm⟩, ⟨?_⟩, ⟨Keep.set HK1.out _ _⟩, ⟨Kd.R_far HO1.out (fun k hk => hk) _⟩, ⟨by have := HL.out; simp; omega⟩, ⟨Nat.le_refl _⟩⟩
       have := Blk.at1 HB1.out ((i : Int) + 1 + 1)
       rw [show ((i + 2 : Nat) : Int) = (i : Int) + 1 + 1 by omega]
       exact this
    ·rw [if_neg q2] at hst
     have hq : (c != 34) = true := bne_iff_ne.mpr (fun h => q2 (.inl h))
     have hq2 : (c != 92) = true := bne_iff_ne.mpr (fun h => q2 (.inr h))
     clear q2
     simp only [Prod.mk.injEq] at hst
     obtain ⟨rfl, h2, rfl⟩ := hst
     obtain rfl : i = rj := h2.symm
     go_wp2_with (go_at_call 36; refine (end_calls s i L g _ HB.out).mono ?_; rintro e w' ⟨rfl, ⟨n, rfl⟩⟩)
     go_quiet (fail)
     go_wp2
     go_quiet (fail)
     go_wp2
     go_quiet (fail)
     go_wp2
     go_ret2
     exact ⟨rfl, HB.out, HK.out.drewN _⟩
   have b92 : (bt s (i : Int) == 92) = false := beq_eq_false_iff_ne.mpr q92
   rw [if_neg q92] at hst
   clear q92
   have HST := Aside0.mk hst
   clear hst
   go_wp2_with (go_at_call 36; refine (end_calls s i L g _ HB.out).mono ?_; rintro e w' ⟨rfl, ⟨n, rfl⟩⟩)
   go_quiet (fail)
   go_wp2_with (at_builtin; refine app_u8 w.heap.size g rfl (.tmp 41) (.tmp 43) rfl u4 out (bt s (i : Int)) rfl ?aX ?aG ?aO ?aS ?aL ?_; (case aX => first | rfl | (simp [Act.eval])); (case aG => have := HG0.out; have := HK.out.k.1; simp; omega); (case aO => exact Kd.R_drewN HO.out _); (case aS => have := HK.out.k.1; simp; omega); (case aL => have := HL.out; have := HS.out; omega); intro v1 w1 ho hb1 hg1; have hB1 : Blk w1 g s (i : Int) L := (by refine blk_grown ?_ hg1 (Kd.R_away HO.out (fun k hk => hk)); exact HB.out); have hK1 : Keep w w1 g := (by refine Keep.below ?_ hb1 HG0.out; exact HK.out.drewN _); have c1' := hB1.c1; have f1' := hB1.fr 1; have HO1 := Aside0.mk ho; have HB1 := Aside0.mk hB1; have HK1 := Aside0.mk hK1; clear ho hb1 hg1 hB1 hK1)
   go_roundg (s.size - (i + 1))
   case measure => have := HG.out; omega
   case rel =>
    refine ⟨i + 1, out ++ [bt s (i : Int)], ⟨by omega⟩, ⟨HST.out.symm⟩, ⟨?_⟩, ⟨Keep.set HK1.out _ _⟩, ⟨Kd.R_far HO1.out (fun k hk => hk) _⟩, ⟨by have := HL.out; simp; omega⟩, ⟨Nat.le_refl _⟩⟩
    exact Blk.at1 HB1.out _
  ·have e1 : decide (s.size ≤ i) = true := decide_eq_true (by omega)
   have hst := quoE_end s i out hlt
   rw [HR.out] at hst
   simp only [Prod.mk.injEq] at hst
   obtain ⟨rfl, h2, rfl⟩ := hst
   obtain rfl : i = rj := h2.symm
   go_wp2_with (go_at_call 36; refine (end_calls s i L g _ HB.out).mono ?_; rintro e w' ⟨rfl, ⟨n, rfl⟩⟩)
   go_ret2
   exact ⟨rfl, HB.out, HK.out.drewN _⟩
end Go.Proofs.YtngedmioeodmfaaDoor.Lx
namespace Go.Proofs.YtngedmioeodmfaaDoor.Lx
open Go.RowKit Go.Proofs.YtngedmioeodmfaaDoor.Pr Go.Proofs.YtngedmioeodmfaaDoorW.PrintWords Go.Proofs.YtngedmioeodmfaaDoorW.PrintLast Go.Proofs.YtngedmioeodmfaaDoorW.PrintMore
abbrev Tk := S40
theorem infoT : (Tryd.prog.info? 40).map (fun i => (i.zero, i.size, i.bytes)) = some (some (.agg #[(.int .i64 0), (.int .i64 0), (.string ⟨#[]⟩)]), 3, 32) := by kernel_rfl
def opIdx (c : Int) : Int := if c = 40 then 3 else if c = 41 then 4 else 5
def tokE (s : ByteArray) (i : Nat) : Option (Tk × Nat × Bool) :=
 if pLetter (bt s i) = true then some (⟨1, i, s.extract i (wEnd s i)⟩, wEnd s i, true)
 else if bt s i = 34 then some (⟨2, i, strOfNums (quoE s (i + 1) []).1⟩, (quoE s (i + 1) []).2.1, (quoE s (i + 1) []).2.2)
 else if bt s i = 40 ∨ bt s i = 41 ∨ bt s i = 59 then some (⟨opIdx (bt s i), i, s.extract i (i + 1)⟩, i + 1, true)
 else none
section
variable {ops : Array Oper} {o : Oper} {a : Act} {Q : Exit → Act → World → Prop} {Kc : Act → World → Prop}
theorem app_tok {W : World} (base g : Nat) (hw : Region.wanted o (yielded ops a.tmps) = true) (s x : Operand)
  (ho : o.op = .call { callee := .builtin .append, args := #[s, x], argTypes := #[36, 36] })
  (v : Value) (xs : List Tk) (p : Tk) (hs : a.eval s = v) (hx : a.eval x = .slice (some ⟨W.heap.size, 0, none⟩) 1 1) (hg : g < W.heap.size)
  (HO : Kd.R k40 40 W base (fun k => k ≠ g) v xs) (hbase : base ≤ W.heap.size) (hl : xs.length + 1 ≤ 1000000000000)
  (h : ∀ v1 w1, Kd.R k40 40 w1 base (fun k => k ≠ g) v1 (xs ++ [p]) → Below base W w1 → W.drew.grownBy w1 v.ownBlock → Kc (a.put o.dst v1) w1) :
  if Region.wanted o (yielded ops a.tmps) = true then Oper.wp Tryd.prog o a (W.alloc (.cells #[.int .i64 p.f0, .int .i64 p.f1, .string p.f2] 40)).drew Kc Q else Kc (a.put o.dst undef) (W.alloc (.cells #[.int .i64 p.f0, .int .i64 p.f1, .string p.f2] 40)).drew := by
 exact Kd.R_append_step (P := Tryd.prog) (ops := ops) (o := o) (a := a) (Q := Q) k40 (w0 := W) (W := W.drew) base hw s x 36 40 _ 32 ho Tryd.underlying36 infoT rfl (by decide) (by omega) v xs p [.int .i64 p.f0, .int .i64 p.f1, .string p.f2] (fun k => k ≠ g) (fun _ => False) hs hx (k40_mkM _ _ _ p) (fun _ hk => hk.elim) (fun k hk => by simp at hk; omega) (Kd.R_drew HO) (below_drew (Below.refl _ _)) hbase (by omega) (fun v1 w1 h1 h2 h3 _ => h v1 w1 h1 h2 h3)
end
set_option maxHeartbeats 4000000 in
set_option maxRecDepth 100000 in
theorem token_letter (s : ByteArray) (i : Nat) (L : Value) (ts : List Tk) (g base : Nat) (w : World) (hs : s.size ≤ 140737488351232) (hi : i < s.size) (hb : Blk w g s i L)
  (hO : Kd.R k40 40 w base (fun k => k ≠ g) L ts) (hbase : base ≤ g) (hts : ts.length ≤ 1000000000) (hl : pLetter (bt s i) = true) :
  Calls Tryd.prog 37 #[.pointer (some ⟨g, 0, none⟩)] w fun e w' =>
   e = .returned (.bool true) ∧ ∃ L', Blk w' g s (wEnd s i : Nat) L' ∧ Kd.R k40 40 w' base (fun k => k ≠ g) L' (ts ++ [⟨1, i, s.extract i (wEnd s i)⟩]) ∧ Below base w w' := by
 have hg := blk_lt hb
 have c0 := hb.c0
 have c1 := hb.c1
 have hr := bt_range s (i : Int)
 have HLT := Aside0.mk (show ∀ W : World, Calls Tryd.prog 60 #[.int .u8 (bt s (i : Int))] W fun e w' => e = .returned (.bool true) ∧ Drawn0 W w' from fun W => lex_letter.calls _ _ W ((pLetter_some _ hr.1 hr.2).trans (by rw [hl])))
 have hlt2 : (i : Int) < (s.size : Int) := by omega
 have hx : ∀ h : i < s.size, ((s[i]'h).toNat : Int) = bt s (i : Int) := fun h => bt_at s (i : Int) h
 have HB := Aside0.mk hb
 have HS := Aside0.mk hs
 have HO := Aside0.mk hO
 have HG0 := Aside0.mk hg
 have hu := Tryd.underlying40
 clear hb hO hl
 go_enter Tryd.func37, Tryd.ntmps37
 go_wp2
 go_quiet (fail)
 go_wp2_with fail
 refine (HLT.out _).mono ?_
 rintro e w' ⟨rfl, ⟨n, rfl⟩⟩
 go_wp2_with fail
 refine (row_word s i L g pWord _ HS.out (by omega) (by exact blk_drewN (blk_alloc HB.out _) _) hWord).mono ?_
 rintro e w1 ⟨rfl, hb1, hk1⟩
 have hT1 : w1.heap[w.heap.size]? = some (.cells #[.int .i64 0, .int .i64 i, .string ⟨#[]⟩] 40 (0, 0)) := hk1.k.blk (blk_drewN (blk_new w _) _) (by omega) (by simp)
 have t0 := (blk_cell hT1 0).trans rfl
 have t1 := (blk_cell hT1 1).trans rfl
 have t2 := (blk_cell hT1 2).trans rfl
 have tf0 := blk_frozen hT1 0
 have tf1 := blk_frozen hT1 1
 have tf2 := blk_frozen hT1 2
 have d0 := hb1.c0
 have d1 := hb1.c1
 have d2 := hb1.c2
 have df := hb1.fr 2
 have hne : g ≠ w.heap.size := by omega
 have HT1 := Aside0.mk hT1
 have HB1 := Aside0.mk hb1
 have HK1 := Aside0.mk hk1
 clear hT1 hb1 hk1 c0 c1
 go_wp2
 have hT3 : ((w1.setCell ⟨w.heap.size, 0, none⟩ (.int .i64 1)).setCell ⟨w.heap.size, 2, none⟩ (.string (s.extract i (rowEnd s pWord (s.size - i) i)))).heap[w.heap.size]? = some (.cells #[.int .i64 1, .int .i64 i, .string (s.extract i (rowEnd s pWord (s.size - i) i))] 40 (0, 0)) := by
  have := blk_set (blk_set HT1.out 0 (.int .i64 1)) 2 (.string (s.extract i (rowEnd s pWord (s.size - i) i))); simpa using this
 have hB3 : Blk ((w1.setCell ⟨w.heap.size, 0, none⟩ (.int .i64 1)).setCell ⟨w.heap.size, 2, none⟩ (.string (s.extract i (rowEnd s pWord (s.size - i) i)))) g s (wEnd s i : Nat) L := blk_far (blk_far HB1.out hne _) hne _
 have hO3 : Kd.R k40 40 ((w1.setCell ⟨w.heap.size, 0, none⟩ (.int .i64 1)).setCell ⟨w.heap.size, 2, none⟩ (.string (s.extract i (rowEnd s pWord (s.size - i) i)))) base (fun k => k ≠ g) L ts :=
  Kd.R_mono (Kd.R_far (Kd.R_far (Kd.R_keep (Kd.R_drewN (Kd.R_alloc (Kd.R_bound HO.out) _) _) HK1.out.k (fun k hk => hk.1)) (p := ⟨w.heap.size, 0, none⟩) (fun k hk => Nat.ne_of_lt hk.2.2.1) _) (p := ⟨w.heap.size, 2, none⟩) (fun k hk => Nat.ne_of_lt hk.2.2.1) _) (fun k hk => hk.1)
 have hW3 : Below base w ((w1.setCell ⟨w.heap.size, 0, none⟩ (.int .i64 1)).setCell ⟨w.heap.size, 2, none⟩ (.string (s.extract i (rowEnd s pWord (s.size - i) i)))) :=
  (((pw_below_drewN (below_alloc (Below.refl w.heap.size w) _) _).mono (by omega : base ≤ w.heap.size)).trans (HK1.out.b.mono hbase) |>.setCell (by simp; omega) _).setCell (by simp; omega) _
 generalize ((w1.setCell ⟨w.heap.size, 0, none⟩ (.int .i64 1)).setCell ⟨w.heap.size, 2, none⟩ (.string (s.extract i (rowEnd s pWord (s.size - i) i)))) = W3 at hT3 hB3 hO3 hW3 ⊢
 clear t0 t1 t2 tf0 tf1 tf2 d0 d1 d2 df
 have HT3 := Aside0.mk hT3
 have HB3 := Aside0.mk hB3
 have HO3 := Aside0.mk hO3
 have HW3 := Aside0.mk hW3
 have t0 := (blk_cell hT3 0).trans rfl
 have t1 := (blk_cell hT3 1).trans rfl
 have t2 := (blk_cell hT3 2).trans rfl
 have d2 := hB3.c2
 have df := hB3.fr 2
 have hg3 := blk_lt hB3
 have hb3 := blk_lt hT3
 have hne : g ≠ w.heap.size := by omega
 clear hT3 hB3 hO3 hW3
 have hbase3 : base ≤ W3.heap.size := by omega
 go_region_law ((refine app_tok base g (by rfl) (.tmp 84) (.tmp 86) rfl L ts (⟨1, i, s.extract i (rowEnd s pWord (s.size - i) i)⟩ : Tk) ?aV ?aX ?aG ?aO ?aS ?aL ?_; (case aV => first | rfl | (simp [Act.eval])); (case aX => first | rfl | (simp [Act.eval])); (case aG => exact hg3); (case aO => exact HO3.out); (case aS => exact hbase3); (case aL => omega); intro v1 w1 ho hb1 hg1; obtain ⟨A1, k1, e1⟩ := Kd.R_slice ho; subst e1; have hB4 : Blk w1 g s (wEnd s i : Nat) L := blk_grown (blk_drew HB3.out) hg1 (Kd.R_away HO3.out (fun k hk => hk)); have f1' := hB4.fr 2; have c2' := hB4.c2; have HO4 := Aside0.mk ho; have HB4 := Aside0.mk hB4; have HW4 := Aside0.mk (HW3.out.trans hb1); clear ho hb1 hg1 hB4))
 all_goals
  go_wp2
  go_ret
  refine ⟨rfl, _, ?_, Kd.R_far HO4.out (fun k hk => hk) _, HW4.out.setCell (by simp; omega) _⟩
  have := blk_set HB4.out 2 (.slice A1 (ts ++ [(⟨1, i, s.extract i (rowEnd s pWord (s.size - i) i)⟩ : Tk)]).length k1)
  simpa [Blk] using this
end Go.Proofs.YtngedmioeodmfaaDoor.Lx
namespace Go.Proofs.YtngedmioeodmfaaDoor.Lx
open Go.RowKit Go.Proofs.YtngedmioeodmfaaDoor.Pr Go.Proofs.YtngedmioeodmfaaDoorW.PrintWords Go.Proofs.YtngedmioeodmfaaDoorW.PrintLast Go.Proofs.YtngedmioeodmfaaDoorW.PrintMore
set_option maxHeartbeats 4000000 in
set_option maxRecDepth 100000 in
theorem token_quote (s : ByteArray) (i : Nat) (L : Value) (ts : List Tk) (g base : Nat) (w : World) (hs : s.size ≤ 140737488351232) (hi : i < s.size) (hb : Blk w g s i L)
  (hO : Kd.R k40 40 w base (fun k => k ≠ g) L ts) (hbase : base ≤ g) (hts : ts.length ≤ 1000000000) (hl : pLetter (bt s i) = false) (q34 : bt s (i : Int) = 34) (ro : List Int) (rj : Nat) (rb : Bool) (hR : quoE s (i + 1) [] = (ro, rj, rb)) :
  Calls Tryd.prog 37 #[.pointer (some ⟨g, 0, none⟩)] w fun e w' =>
   e = .returned (.bool rb) ∧ ∃ L', Blk w' g s (rj : Nat) L' ∧ Kd.R k40 40 w' base (fun k => k ≠ g) L' (ts ++ [⟨2, i, strOfNums ro⟩]) ∧ Below base w w' := by
 have hg := blk_lt hb
 have c0 := hb.c0
 have c1 := hb.c1
 have hr := bt_range s (i : Int)
 have HLT := Aside0.mk (show ∀ W : World, Calls Tryd.prog 60 #[.int .u8 (bt s (i : Int))] W fun e w' => e = .returned (.bool false) ∧ Drawn0 W w' from fun W => lex_letter.calls _ _ W ((pLetter_some _ hr.1 hr.2).trans (by rw [hl])))
 have hlt2 : (i : Int) < (s.size : Int) := by omega
 have hx : ∀ h : i < s.size, ((s[i]'h).toNat : Int) = bt s (i : Int) := fun h => bt_at s (i : Int) h
 have b34 : (bt s (i : Int) == 34) = true := beq_iff_eq.mpr q34
 clear q34
 have HR := Aside0.mk hR
 clear hR
 have HB := Aside0.mk hb
 have HS := Aside0.mk hs
 have HO := Aside0.mk hO
 have HG0 := Aside0.mk hg
 have hu := Tryd.underlying40
 clear hb hO hl
 go_enter Tryd.func37, Tryd.ntmps37
 go_wp2
 go_quiet (fail)
 go_wp2_with fail
 refine (HLT.out _).mono ?_
 rintro e w' ⟨rfl, ⟨n, rfl⟩⟩
 have hne : w.heap.size ≠ g := by omega
 go_wp2_with fail
 refine (quoted_calls s i L g _ HS.out hi (by exact blk_far (blk_drewN (blk_alloc HB.out _) _) (Ne.symm hne) _) ro rj rb HR.out).mono ?_
 rintro e w1 ⟨rfl, hb1, hk1⟩
 have hT1 : w1.heap[w.heap.size]? = some (.cells #[.int .i64 2, .int .i64 i, .string ⟨#[]⟩] 40 (0, 0)) := hk1.k.blk (by exact blk_put (blk_drewN (blk_new w (.cells #[.int .i64 0, .int .i64 i, .string ⟨#[]⟩] 40)) _) 0 (.int .i64 2) rfl) hne (by simp)
 have t0 := (blk_cell hT1 0).trans rfl
 have t1 := (blk_cell hT1 1).trans rfl
 have t2 := (blk_cell hT1 2).trans rfl
 have tf2 := blk_frozen hT1 2
 have d0 := hb1.c0
 have d1 := hb1.c1
 have d2 := hb1.c2
 have df := hb1.fr 2
 have HT1 := Aside0.mk hT1
 have HB1 := Aside0.mk hb1
 have HK1 := Aside0.mk hk1
 clear hT1 hb1 hk1 c0 c1
 go_wp2
 have hT3 : (w1.setCell ⟨w.heap.size, 2, none⟩ (.string (strOfNums ro))).heap[w.heap.size]? = some (.cells #[.int .i64 2, .int .i64 i, .string (strOfNums ro)] 40 (0, 0)) := by
  have := blk_set HT1.out 2 (.string (strOfNums ro)); simpa using this
 have hB3 : Blk (w1.setCell ⟨w.heap.size, 2, none⟩ (.string (strOfNums ro))) g s (rj : Nat) L := blk_far HB1.out (Ne.symm hne) _
 have hO3 : Kd.R k40 40 (w1.setCell ⟨w.heap.size, 2, none⟩ (.string (strOfNums ro))) base (fun k => k ≠ g) L ts :=
  Kd.R_mono (Kd.R_far (Kd.R_keep (Kd.R_far (Kd.R_drewN (Kd.R_alloc (Kd.R_bound HO.out) _) _) (p := ⟨w.heap.size, 0, none⟩) (fun k hk => Nat.ne_of_lt hk.2.2.1) _) HK1.out.k (fun k hk => hk.1)) (p := ⟨w.heap.size, 2, none⟩) (fun k hk => Nat.ne_of_lt hk.2.2.1) _) (fun k hk => hk.1)
 have hW3 : Below base w (w1.setCell ⟨w.heap.size, 2, none⟩ (.string (strOfNums ro))) :=
  (((pw_below_drewN (below_alloc (Below.refl w.heap.size w) _) _).mono (by omega : base ≤ w.heap.size)).setCell (by simp; omega) _).trans (HK1.out.b.mono hbase) |>.setCell (by simp; omega) _
 clear t0 t1 t2 tf2 d0 d1 d2 df hne
 generalize (w1.setCell ⟨w.heap.size, 2, none⟩ (.string (strOfNums ro))) = W3 at hT3 hB3 hO3 hW3 ⊢
 have HT3 := Aside0.mk hT3
 have HB3 := Aside0.mk hB3
 have HO3 := Aside0.mk hO3
 have HW3 := Aside0.mk hW3
 have t0 := (blk_cell hT3 0).trans rfl
 have t1 := (blk_cell hT3 1).trans rfl
 have t2 := (blk_cell hT3 2).trans rfl
 have d2 := hB3.c2
 have df := hB3.fr 2
 have hg3 := blk_lt hB3
 have hb3 := blk_lt hT3
 have hne : g ≠ w.heap.size := by omega
 clear hT3 hB3 hO3 hW3
 have hbase3 : base ≤ W3.heap.size := by omega
 go_region_law ((refine app_tok base g (by rfl) (.tmp 84) (.tmp 86) rfl L ts (⟨2, i, strOfNums ro⟩ : Tk) ?aV ?aX ?aG ?aO ?aS ?aL ?_; (case aV => first | rfl | (simp [Act.eval])); (case aX => first | rfl | (simp [Act.eval])); (case aG => exact hg3); (case aO => exact HO3.out); (case aS => exact hbase3); (case aL => omega); intro v1 w1 ho hb1 hg1; obtain ⟨A1, k1, e1⟩ := Kd.R_slice ho; subst e1; have hB4 : Blk w1 g s (rj : Nat) L := blk_grown (blk_drew HB3.out) hg1 (Kd.R_away HO3.out (fun k hk => hk)); have f1' := hB4.fr 2; have c2' := hB4.c2; have HO4 := Aside0.mk ho; have HB4 := Aside0.mk hB4; have HW4 := Aside0.mk (HW3.out.trans hb1); clear ho hb1 hg1 hB4))
 all_goals
  go_wp2
  go_ret
  refine ⟨rfl, _, ?_, Kd.R_far HO4.out (fun k hk => hk) _, HW4.out.setCell (by simp; omega) _⟩
  have := blk_set HB4.out 2 (.slice A1 (ts ++ [(⟨2, i, strOfNums ro⟩ : Tk)]).length k1)
  simpa [Blk] using this
set_option maxHeartbeats 4000000 in
set_option maxRecDepth 100000 in
theorem token_none (s : ByteArray) (i : Nat) (L : Value) (ts : List Tk) (g base : Nat) (w : World) (hs : s.size ≤ 140737488351232) (hi : i < s.size) (hb : Blk w g s i L)
  (hO : Kd.R k40 40 w base (fun k => k ≠ g) L ts) (hbase : base ≤ g) (hts : ts.length ≤ 1000000000) (hl : pLetter (bt s i) = false) (n34 : bt s (i : Int) ≠ 34) (n40 : bt s (i : Int) ≠ 40) (n41 : bt s (i : Int) ≠ 41) (n59 : bt s (i : Int) ≠ 59) :
  Calls Tryd.prog 37 #[.pointer (some ⟨g, 0, none⟩)] w fun e w' =>
   e = .returned (.bool false) ∧ Blk w' g s (i : Nat) L ∧ Below base w w' := by
 have hg := blk_lt hb
 have c0 := hb.c0
 have c1 := hb.c1
 have hr := bt_range s (i : Int)
 have HLT := Aside0.mk (show ∀ W : World, Calls Tryd.prog 60 #[.int .u8 (bt s (i : Int))] W fun e w' => e = .returned (.bool false) ∧ Drawn0 W w' from fun W => lex_letter.calls _ _ W ((pLetter_some _ hr.1 hr.2).trans (by rw [hl])))
 have hlt2 : (i : Int) < (s.size : Int) := by omega
 have hx : ∀ h : i < s.size, ((s[i]'h).toNat : Int) = bt s (i : Int) := fun h => bt_at s (i : Int) h
 have b34 : (bt s (i : Int) == 34) = false := beq_eq_false_iff_ne.mpr n34
 have b40 : (bt s (i : Int) == 40) = false := beq_eq_false_iff_ne.mpr n40
 have b41 : (bt s (i : Int) == 41) = false := beq_eq_false_iff_ne.mpr n41
 have b59 : (bt s (i : Int) == 59) = false := beq_eq_false_iff_ne.mpr n59
 clear n34 n40 n41 n59
 have HB := Aside0.mk hb
 have HS := Aside0.mk hs
 have HO := Aside0.mk hO
 have HG0 := Aside0.mk hg
 have hu := Tryd.underlying40
 clear hb hO hl
 go_enter Tryd.func37, Tryd.ntmps37
 go_wp2
 go_quiet (fail)
 go_wp2_with fail
 refine (HLT.out _).mono ?_
 rintro e w' ⟨rfl, ⟨n, rfl⟩⟩
 go_wp2
 go_ret
 exact ⟨rfl, blk_drewN (blk_alloc HB.out _) _, (pw_below_drewN (below_alloc (Below.refl w.heap.size w) _) _).mono (by omega)⟩
theorem token_p40 (s : ByteArray) (i : Nat) (L : Value) (ts : List Tk) (g base : Nat) (w : World) (hs : s.size ≤ 140737488351232) (hi : i < s.size) (hb : Blk w g s i L)
  (hO : Kd.R k40 40 w base (fun k => k ≠ g) L ts) (hbase : base ≤ g) (hts : ts.length ≤ 1000000000) (hl : pLetter (bt s i) = false) (q : bt s (i : Int) = 40) :
  Calls Tryd.prog 37 #[.pointer (some ⟨g, 0, none⟩)] w fun e w' =>
   e = .returned (.bool true) ∧ ∃ L', Blk w' g s ((i : Int) + 1) L' ∧ Kd.R k40 40 w' base (fun k => k ≠ g) L' (ts ++ [⟨3, i, s.extract i (i + 1)⟩]) ∧ Below base w w' := by
 have hg := blk_lt hb
 have c0 := hb.c0
 have c1 := hb.c1
 have hr := bt_range s (i : Int)
 have HLT := Aside0.mk (show ∀ W : World, Calls Tryd.prog 60 #[.int .u8 (bt s (i : Int))] W fun e w' => e = .returned (.bool false) ∧ Drawn0 W w' from fun W => lex_letter.calls _ _ W ((pLetter_some _ hr.1 hr.2).trans (by rw [hl])))
 have hlt2 : (i : Int) < (s.size : Int) := by omega
 have hx : ∀ h : i < s.size, ((s[i]'h).toNat : Int) = bt s (i : Int) := fun h => bt_at s (i : Int) h
 have b34 : (bt s (i : Int) == 34) = false := by rw [q]; rfl
 have b40 : (bt s (i : Int) == 40) = true := by rw [q]; rfl
 have b41 : (bt s (i : Int) == 41) = false := by rw [q]; rfl
 have b59 : (bt s (i : Int) == 59) = false := by rw [q]; rfl
 have HQ := Aside0.mk (show ∀ W : World, Calls Tryd.prog 63 #[.string ⟨#[40, 41, 59]⟩, .int .u8 (bt s (i : Int))] W fun e w' => e = .returned (.int .i64 0) ∧ w' = W from fun W => by rw [q]; exact Tryd.strings_IndexByte _ _ W)
 clear q
 have HB := Aside0.mk hb
 have HS := Aside0.mk hs
 have HO := Aside0.mk hO
 have HG0 := Aside0.mk hg
 have hu := Tryd.underlying40
 clear hb hO hl
 go_enter Tryd.func37, Tryd.ntmps37
 go_wp2
 go_quiet (fail)
 go_wp2_with fail
 refine (HLT.out _).mono ?_
 rintro e w' ⟨rfl, ⟨n, rfl⟩⟩
 have hne : w.heap.size ≠ g := by omega
 have hz1 : (i : Int) ≤ (i : Int) + 1 := by omega
 have hz2 : (i : Int) + 1 ≤ (s.size : Int) := by omega
 go_wp2
 have hT1 : ((w.alloc (.cells #[.int .i64 0, .int .i64 i, .string ⟨#[]⟩] 40)).drewN (nq + n)).heap[w.heap.size]? = some (.cells #[.int .i64 0, .int .i64 i, .string ⟨#[]⟩] 40 (0, 0)) := blk_drewN (blk_new w _) _
 have hb1 : Blk ((w.alloc (.cells #[.int .i64 0, .int .i64 i, .string ⟨#[]⟩] 40)).drewN (nq + n)) g s i L := blk_drewN (blk_alloc HB.out _) _
 have ho1 : Kd.R k40 40 ((w.alloc (.cells #[.int .i64 0, .int .i64 i, .string ⟨#[]⟩] 40)).drewN (nq + n)) base (fun k => k ≠ g ∧ k ≠ w.heap.size) L ts := Kd.R_mono (Kd.R_drewN (Kd.R_alloc (Kd.R_bound HO.out) _) _) (fun k hk => ⟨hk.1, Nat.ne_of_lt hk.2.2.1⟩)
 have hw1 : Below base w ((w.alloc (.cells #[.int .i64 0, .int .i64 i, .string ⟨#[]⟩] 40)).drewN (nq + n)) := (pw_below_drewN (below_alloc (Below.refl w.heap.size w) _) _).mono (by omega)
 generalize ((w.alloc (.cells #[.int .i64 0, .int .i64 i, .string ⟨#[]⟩] 40)).drewN (nq + n)) = W1 at hT1 hb1 ho1 hw1 ⊢
 clear c0 c1
 have d0 := hb1.c0
 have d1 := hb1.c1
 have df1 := hb1.fr 1
 have t0 := (blk_cell hT1 0).trans rfl
 have t2 := (blk_cell hT1 2).trans rfl
 have tf0 := blk_frozen hT1 0
 have tf2 := blk_frozen hT1 2
 have HT1 := Aside0.mk hT1
 have HB1 := Aside0.mk hb1
 have HO1 := Aside0.mk ho1
 have HW1 := Aside0.mk hw1
 clear hT1 hb1 ho1 hw1
 have hz3 : i ≤ i + 1 := by omega
 have hz4 : i + 1 ≤ s.size := by omega
 have hz5 : (0 : Int) ≤ (i : Int) + 1 := by omega
 have hz6 : ((i : Int) + 1).toNat = i + 1 := by omega
 have hz7 : IntKind.i64.wrap ((i : Int) + 1) = (i : Int) + 1 := IntWalk.i64_in _ (by omega)
 refine start_ (n := 24) (S := fun w' => w'.cell? ⟨g, 0, none⟩ = some (.string s) ∧ w'.cell? ⟨g, 1, none⟩ = some (.int .i64 i)) (ds := []) #[false, false, false, false, false, false, false, false, false, false, false, false, false, false, false, false, false, false, false, false, false, false, false, false] (by kernel_rfl) rfl rfl ⟨d0, d1⟩ (fun hHeld => ?_)
 refine pure_ (i := 0) (N := some 49) (v := ?_) (a' := ?_) #[true, false, false, false, false, false, false, false, false, false, false, false, false, false, false, false, false, false, false, false, false, false, false, false] rfl rfl (by kernel_rfl) (fun _ _ _ h => h) (Or.inl ⟨by rfl, ?_⟩) ?_ ?_
 rotate_left
 ·exact sTe2_1
 rotate_left
 ·exact nTe2_
 refine pure_ (i := 3) (N := some 52) (v := ?_) (a' := ?_) #[true, false, false, true, false, false, false, false, false, false, false, false, false, false, false, false, false, false, false, false, false, false, false, false] rfl rfl (by kernel_rfl) (fun _ _ _ h => h) (Or.inl ⟨by rfl, ?_⟩) ?_ ?_
 rotate_left
 ·exact sTe2_1
 rotate_left
 ·exact nTe2_
 refine pure_ (i := 4) (N := some 53) (v := ?_) (a' := ?_) #[true, false, false, true, true, false, false, false, false, false, false, false, false, false, false, false, false, false, false, false, false, false, false, false] rfl rfl (by kernel_rfl) (fun _ _ _ h => h) (Or.inl ⟨by rfl, ?_⟩) ?_ ?_
 rotate_left
 ·exact sTe2_1
 rotate_left
 ·exact nTe2_
 refine pure_ (i := 5) (N := some 54) (v := ?_) (a' := ?_) #[true, false, false, true, true, true, false, false, false, false, false, false, false, false, false, false, false, false, false, false, false, false, false, false] rfl rfl (by kernel_rfl) (fun _ _ _ h => h) (Or.inl ⟨by rfl, ?_⟩) ?_ ?_
 rotate_left
 ·exact sTe2_1
 rotate_left
 ·exact nTe2_
 refine pure_ (i := 6) (N := some 55) (v := ?_) (a' := ?_) #[true, false, false, true, true, true, true, false, false, false, false, false, false, false, false, false, false, false, false, false, false, false, false, false] rfl rfl (by kernel_rfl) (fun _ _ _ h => h) (Or.inl ⟨by rfl, ?_⟩) ?_ ?_
 rotate_left
 ·exact sTe2_1
 rotate_left
 ·exact nTe2_
 refine pure_ (i := 8) (N := some 57) (v := ?_) (a' := ?_) #[true, false, false, true, true, true, true, false, true, false, false, false, false, false, false, false, false, false, false, false, false, false, false, false] rfl rfl (by kernel_rfl) (fun _ _ _ h => h) (Or.inl ⟨by rfl, ?_⟩) ?_ ?_
 rotate_left
 ·exact sTe2_1
 rotate_left
 ·exact nTe2_
 refine pure_ (i := 9) (N := some 58) (v := ?_) (a' := ?_) #[true, false, false, true, true, true, true, false, true, true, false, false, false, false, false, false, false, false, false, false, false, false, false, false] rfl rfl (by kernel_rfl) (fun _ _ _ h => h) (Or.inl ⟨by rfl, ?_⟩) ?_ ?_
 rotate_left
 ·exact sTe2_1
 rotate_left
 ·exact nTe2_
 refine pure_ (i := 10) (N := some 59) (v := ?_) (a' := ?_) #[true, false, false, true, true, true, true, false, true, true, true, false, false, false, false, false, false, false, false, false, false, false, false, false] rfl rfl (by kernel_rfl) (fun _ _ _ h => h) (Or.inl ⟨by rfl, ?_⟩) ?_ ?_
 rotate_left
 ·exact sTe2_1
 rotate_left
 ·exact nTe2_
 refine pure_ (i := 11) (N := some 60) (v := ?_) (a' := ?_) #[true, false, false, true, true, true, true, false, true, true, true, true, false, false, false, false, false, false, false, false, false, false, false, false] rfl rfl (by kernel_rfl) (fun _ _ _ h => h) (Or.inl ⟨by rfl, ?_⟩) ?_ ?_
 rotate_left
 ·exact sTe2_1
 rotate_left
 ·exact nTe2_
 refine pure_ (i := 13) (N := some 62) (v := ?_) (a' := ?_) #[true, false, false, true, true, true, true, false, true, true, true, true, false, true, false, false, false, false, false, false, false, false, false, false] rfl rfl (by kernel_rfl) (fun _ _ _ h => h) (Or.inl ⟨by rfl, ?_⟩) ?_ ?_
 rotate_left
 ·exact sTe2_1
 rotate_left
 ·exact nTe2_
 refine pure_ (i := 14) (N := some 63) (v := ?_) (a' := ?_) #[true, false, false, true, true, true, true, false, true, true, true, true, false, true, true, false, false, false, false, false, false, false, false, false] rfl rfl (by kernel_rfl) (fun _ _ _ h => h) (Or.inl ⟨by rfl, ?_⟩) ?_ ?_
 rotate_left
 ·exact sTe2_1
 rotate_left
 ·exact nTe2_
 refine pure_ (i := 15) (N := some 64) (v := ?_) (a' := ?_) #[true, false, false, true, true, true, true, false, true, true, true, true, false, true, true, true, false, false, false, false, false, false, false, false] rfl rfl (by kernel_rfl) (fun _ _ _ h => h) (Or.inl ⟨by rfl, ?_⟩) ?_ ?_
 rotate_left
 ·exact sTe2_1
 rotate_left
 ·exact nTe2_
 refine pure_ (i := 16) (N := some 65) (v := ?_) (a' := ?_) #[true, false, false, true, true, true, true, false, true, true, true, true, false, true, true, true, true, false, false, false, false, false, false, false] rfl rfl (by kernel_rfl) (fun _ _ _ h => h) (Or.inl ⟨by rfl, ?_⟩) ?_ ?_
 rotate_left
 ·exact sTe2_1
 rotate_left
 ·exact nTe2_
 refine take_ (i := 7) (N := some 56) (v := ?_) (a' := ?_) #[true, false, false, true, true, true, true, true, true, true, true, true, false, true, true, true, true, false, false, false, false, false, false, false] rfl rfl (by kernel_rfl) (fun _ _ _ h => h) (Or.inl ⟨by rfl, ?_⟩) hHeld ?_ ?_
 rotate_left
 ·exact sTe2_4
 rotate_left
 ·exact nTe2_
 refine take_ (i := 12) (N := some 61) (v := ?_) (a' := ?_) #[true, false, false, true, true, true, true, true, true, true, true, true, true, true, true, true, true, false, false, false, false, false, false, false] rfl rfl (by kernel_rfl) (fun _ _ _ h => h) (Or.inl ⟨by rfl, ?_⟩) hHeld ?_ ?_
 rotate_left
 ·exact sTe2_4
 rotate_left
 ·exact nTe2_
 refine take_ (i := 17) (N := some 66) (v := ?_) (a' := ?_) #[true, false, false, true, true, true, true, true, true, true, true, true, true, true, true, true, true, true, false, false, false, false, false, false] rfl rfl (by kernel_rfl) (fun _ _ _ h => h) (Or.inl ⟨by rfl, ?_⟩) hHeld ?_ ?_
 rotate_left
 ·exact sTe2_4
 rotate_left
 ·exact nTe2_
 refine pure_ (i := 18) (N := some 67) (v := ?_) (a' := ?_) #[true, false, false, true, true, true, true, true, true, true, true, true, true, true, true, true, true, true, true, false, false, false, false, false] rfl rfl (by kernel_rfl) (fun _ _ _ h => h) (Or.inl ⟨by rfl, ?_⟩) ?_ ?_
 rotate_left
 ·exact sTe2_1
 rotate_left
 ·exact nTe2_
 refine pure_ (i := 19) (N := some 68) (v := ?_) (a' := ?_) #[true, false, false, true, true, true, true, true, true, true, true, true, true, true, true, true, true, true, true, true, false, false, false, false] rfl rfl (by kernel_rfl) (fun _ _ _ h => h) (Or.inl ⟨by rfl, ?_⟩) ?_ ?_
 rotate_left
 ·exact sTe2_1
 rotate_left
 ·exact nTe2_
 refine one_ (i := 1) (N := some 50) #[true, true, false, true, true, true, true, true, true, true, true, true, true, true, true, true, true, true, true, true, false, false, false, false] rfl rfl (by kernel_rfl) (by decide) (fun K hK => ?_)
 refine goes_ Tryd.func63 (by kernel_rfl) rfl #[.string ⟨#[40, 41, 59]⟩, .int .u8 (bt s (i : Int))] (by rfl) rfl rfl (by simp only [List.map_toArray, List.map_cons, List.map_nil]; rfl) ?_
 with_reducible refine (HQ.out _).mono ?_
 rintro e w' ⟨rfl, rfl⟩
 refine ⟨_, rfl, ?_⟩
 refine hK.out _ _ ⟨hHeld.1, hHeld.2⟩ (fun hHeld => ?_)
 clear hK K
 refine norm_ (a' := ?_) ?_ ?_
 rotate_left
 ·show Act.put _ (some 50) _ = _
  exact nTe2_
 refine pure_ (i := 2) (N := some 51) (v := ?_) (a' := ?_) #[true, true, true, true, true, true, true, true, true, true, true, true, true, true, true, true, true, true, true, true, false, false, false, false] rfl rfl (by kernel_rfl) (fun _ _ _ h => h) (Or.inl ⟨by rfl, ?_⟩) ?_ ?_
 rotate_left
 ·exact sTe2_1
 rotate_left
 ·exact nTe2_
 refine pure_ (i := 20) (N := some 69) (v := ?_) (a' := ?_) #[true, true, true, true, true, true, true, true, true, true, true, true, true, true, true, true, true, true, true, true, true, false, false, false] rfl rfl (by kernel_rfl) (fun _ _ _ h => h) (Or.inl ⟨by rfl, ?_⟩) ?_ ?_
 rotate_left
 ·exact sTe2_1
 rotate_left
 ·exact nTe2_
 refine one_ (i := 21) (N := none) #[true, true, true, true, true, true, true, true, true, true, true, true, true, true, true, true, true, true, true, true, true, true, false, false] rfl rfl (by kernel_rfl) (by decide) (fun K hK => ?_)
 refine skip_ (w1 := ?_) (by rfl) rfl ?_ ?_
 rotate_left
 ·go_simp
  rfl
 refine hK.out _ _ ⟨(Blk.c0 (blk_far (blk_drew HB1.out) (Ne.symm hne) _)), (Blk.c1 (blk_far (blk_drew HB1.out) (Ne.symm hne) _))⟩ (fun hHeld => ?_)
 clear hK K
 refine pure_ (i := 22) (N := some 70) (v := ?_) (a' := ?_) #[true, true, true, true, true, true, true, true, true, true, true, true, true, true, true, true, true, true, true, true, true, true, true, false] rfl rfl (by kernel_rfl) (fun _ _ _ h => h) (Or.inl ⟨by rfl, ?_⟩) ?_ ?_
 rotate_left
 ·exact sTe2_1
 rotate_left
 ·exact nTe2_
 refine one_ (i := 23) (N := none) #[true, true, true, true, true, true, true, true, true, true, true, true, true, true, true, true, true, true, true, true, true, true, true, true] rfl rfl (by kernel_rfl) (by decide) (fun K hK => ?_)
 refine skip_ (w1 := ?_) (by rfl) rfl ?_ ?_
 rotate_left
 ·go_simp
  rfl
 refine hK.out _ _ ⟨(Blk.c0 (blk_far (blk_far (blk_drew HB1.out) (Ne.symm hne) _) (Ne.symm hne) _)), (Blk.c1 (blk_far (blk_far (blk_drew HB1.out) (Ne.symm hne) _) (Ne.symm hne) _))⟩ (fun hHeld => ?_)
 clear hK K
 refine done_ (by kernel_rfl) ?_

 clear hz3 hz4 hz5 hz6 hz7
 go_wp2
 simp only [show wrap64 3 = (3 : Int) from by unfold wrap64; omega]
 have hT3 : ((((W1.setCell ⟨w.heap.size, 0, none⟩ (.int .i64 3)).setCell ⟨w.heap.size, 2, none⟩ (.string (s.extract i (i + 1)))).setCell ⟨g, 1, none⟩ (.int .i64 ((i : Int) + 1))).drew).heap[w.heap.size]? = some (.cells #[.int .i64 3, .int .i64 i, .string (s.extract i (i + 1))] 40 (0, 0)) :=
  blk_drew (blk_far (blk_put (blk_put HT1.out 0 (.int .i64 3) rfl) 2 (.string (s.extract i (i + 1))) rfl) hne _)
 have hB3 : Blk ((((W1.setCell ⟨w.heap.size, 0, none⟩ (.int .i64 3)).setCell ⟨w.heap.size, 2, none⟩ (.string (s.extract i (i + 1)))).setCell ⟨g, 1, none⟩ (.int .i64 ((i : Int) + 1))).drew) g s ((i : Int) + 1) L := blk_drew (Blk.at1 (blk_far (blk_far HB1.out (Ne.symm hne) _) (Ne.symm hne) _) _)
 have hO3 : Kd.R k40 40 ((((W1.setCell ⟨w.heap.size, 0, none⟩ (.int .i64 3)).setCell ⟨w.heap.size, 2, none⟩ (.string (s.extract i (i + 1)))).setCell ⟨g, 1, none⟩ (.int .i64 ((i : Int) + 1))).drew) base (fun k => k ≠ g) L ts :=
  Kd.R_mono (Kd.R_drew (Kd.R_far (Kd.R_far (Kd.R_far HO1.out (p := ⟨w.heap.size, 0, none⟩) (fun k hk => hk.2) _) (p := ⟨w.heap.size, 2, none⟩) (fun k hk => hk.2) _) (p := ⟨g, 1, none⟩) (fun k hk => hk.1) _)) (fun k hk => hk.1)
 have hW3 : Below base w ((((W1.setCell ⟨w.heap.size, 0, none⟩ (.int .i64 3)).setCell ⟨w.heap.size, 2, none⟩ (.string (s.extract i (i + 1)))).setCell ⟨g, 1, none⟩ (.int .i64 ((i : Int) + 1))).drew) := (((HW1.out.setCell (by simp; omega) _).setCell (by simp; omega) _).setCell (by simpa using hbase) _).drew
 clear t0 t2 tf0 tf2 d0 d1 df1 hne
 generalize ((((W1.setCell ⟨w.heap.size, 0, none⟩ (.int .i64 3)).setCell ⟨w.heap.size, 2, none⟩ (.string (s.extract i (i + 1)))).setCell ⟨g, 1, none⟩ (.int .i64 ((i : Int) + 1))).drew) = W3 at hT3 hB3 hO3 hW3 ⊢
 have HT3 := Aside0.mk hT3
 have HB3 := Aside0.mk hB3
 have HO3 := Aside0.mk hO3
 have HW3 := Aside0.mk hW3
 have t0 := (blk_cell hT3 0).trans rfl
 have t1 := (blk_cell hT3 1).trans rfl
 have t2 := (blk_cell hT3 2).trans rfl
 have d2 := hB3.c2
 have df := hB3.fr 2
 have hg3 := blk_lt hB3
 have hb3 := blk_lt hT3
 have hne : g ≠ w.heap.size := by omega
 clear hT3 hB3 hO3 hW3
 have hbase3 : base ≤ W3.heap.size := by omega
 go_region_law ((refine app_tok base g (by rfl) (.tmp 84) (.tmp 86) rfl L ts (⟨3, i, s.extract i (i + 1)⟩ : Tk) ?aV ?aX ?aG ?aO ?aS ?aL ?_; (case aV => first | rfl | (simp [Act.eval])); (case aX => first | rfl | (simp [Act.eval])); (case aG => exact hg3); (case aO => exact HO3.out); (case aS => exact hbase3); (case aL => omega); intro v1 w1 ho hb1 hg1; obtain ⟨A1, k1, e1⟩ := Kd.R_slice ho; subst e1; have hB4 : Blk w1 g s ((i : Int) + 1) L := blk_grown (blk_drew HB3.out) hg1 (Kd.R_away HO3.out (fun k hk => hk)); have f1' := hB4.fr 2; have c2' := hB4.c2; have HO4 := Aside0.mk ho; have HB4 := Aside0.mk hB4; have HW4 := Aside0.mk (HW3.out.trans hb1); clear ho hb1 hg1 hB4))
 all_goals
  go_wp2
  go_ret
  refine ⟨rfl, _, ?_, Kd.R_far HO4.out (fun k hk => hk) _, HW4.out.setCell (by simp; omega) _⟩
  have := blk_set HB4.out 2 (.slice A1 (ts ++ [(⟨3, i, s.extract i (i + 1)⟩ : Tk)]).length k1)
  simpa [Blk] using this
set_option maxHeartbeats 4000000 in
set_option maxRecDepth 100000 in
theorem token_p41 (s : ByteArray) (i : Nat) (L : Value) (ts : List Tk) (g base : Nat) (w : World) (hs : s.size ≤ 140737488351232) (hi : i < s.size) (hb : Blk w g s i L)
  (hO : Kd.R k40 40 w base (fun k => k ≠ g) L ts) (hbase : base ≤ g) (hts : ts.length ≤ 1000000000) (hl : pLetter (bt s i) = false) (q : bt s (i : Int) = 41) :
  Calls Tryd.prog 37 #[.pointer (some ⟨g, 0, none⟩)] w fun e w' =>
   e = .returned (.bool true) ∧ ∃ L', Blk w' g s ((i : Int) + 1) L' ∧ Kd.R k40 40 w' base (fun k => k ≠ g) L' (ts ++ [⟨4, i, s.extract i (i + 1)⟩]) ∧ Below base w w' := by
 have hg := blk_lt hb
 have c0 := hb.c0
 have c1 := hb.c1
 have hr := bt_range s (i : Int)
 have HLT := Aside0.mk (show ∀ W : World, Calls Tryd.prog 60 #[.int .u8 (bt s (i : Int))] W fun e w' => e = .returned (.bool false) ∧ Drawn0 W w' from fun W => lex_letter.calls _ _ W ((pLetter_some _ hr.1 hr.2).trans (by rw [hl])))
 have hlt2 : (i : Int) < (s.size : Int) := by omega
 have hx : ∀ h : i < s.size, ((s[i]'h).toNat : Int) = bt s (i : Int) := fun h => bt_at s (i : Int) h
 have b34 : (bt s (i : Int) == 34) = false := by rw [q]; rfl
 have b40 : (bt s (i : Int) == 40) = false := by rw [q]; rfl
 have b41 : (bt s (i : Int) == 41) = true := by rw [q]; rfl
 have b59 : (bt s (i : Int) == 59) = false := by rw [q]; rfl
 have HQ := Aside0.mk (show ∀ W : World, Calls Tryd.prog 63 #[.string ⟨#[40, 41, 59]⟩, .int .u8 (bt s (i : Int))] W fun e w' => e = .returned (.int .i64 1) ∧ w' = W from fun W => by rw [q]; exact Tryd.strings_IndexByte _ _ W)
 clear q
 have HB := Aside0.mk hb
 have HS := Aside0.mk hs
 have HO := Aside0.mk hO
 have HG0 := Aside0.mk hg
 have hu := Tryd.underlying40
 clear hb hO hl
 go_enter Tryd.func37, Tryd.ntmps37
 go_wp2
 go_quiet (fail)
 go_wp2_with fail
 refine (HLT.out _).mono ?_
 rintro e w' ⟨rfl, ⟨n, rfl⟩⟩
 have hne : w.heap.size ≠ g := by omega
 have hz1 : (i : Int) ≤ (i : Int) + 1 := by omega
 have hz2 : (i : Int) + 1 ≤ (s.size : Int) := by omega
 go_wp2
 have hT1 : ((w.alloc (.cells #[.int .i64 0, .int .i64 i, .string ⟨#[]⟩] 40)).drewN (nq + n)).heap[w.heap.size]? = some (.cells #[.int .i64 0, .int .i64 i, .string ⟨#[]⟩] 40 (0, 0)) := blk_drewN (blk_new w _) _
 have hb1 : Blk ((w.alloc (.cells #[.int .i64 0, .int .i64 i, .string ⟨#[]⟩] 40)).drewN (nq + n)) g s i L := blk_drewN (blk_alloc HB.out _) _
 have ho1 : Kd.R k40 40 ((w.alloc (.cells #[.int .i64 0, .int .i64 i, .string ⟨#[]⟩] 40)).drewN (nq + n)) base (fun k => k ≠ g ∧ k ≠ w.heap.size) L ts := Kd.R_mono (Kd.R_drewN (Kd.R_alloc (Kd.R_bound HO.out) _) _) (fun k hk => ⟨hk.1, Nat.ne_of_lt hk.2.2.1⟩)
 have hw1 : Below base w ((w.alloc (.cells #[.int .i64 0, .int .i64 i, .string ⟨#[]⟩] 40)).drewN (nq + n)) := (pw_below_drewN (below_alloc (Below.refl w.heap.size w) _) _).mono (by omega)
 generalize ((w.alloc (.cells #[.int .i64 0, .int .i64 i, .string ⟨#[]⟩] 40)).drewN (nq + n)) = W1 at hT1 hb1 ho1 hw1 ⊢
 clear c0 c1
 have d0 := hb1.c0
 have d1 := hb1.c1
 have df1 := hb1.fr 1
 have t0 := (blk_cell hT1 0).trans rfl
 have t2 := (blk_cell hT1 2).trans rfl
 have tf0 := blk_frozen hT1 0
 have tf2 := blk_frozen hT1 2
 have HT1 := Aside0.mk hT1
 have HB1 := Aside0.mk hb1
 have HO1 := Aside0.mk ho1
 have HW1 := Aside0.mk hw1
 clear hT1 hb1 ho1 hw1
 have hz3 : i ≤ i + 1 := by omega
 have hz4 : i + 1 ≤ s.size := by omega
 have hz5 : (0 : Int) ≤ (i : Int) + 1 := by omega
 have hz6 : ((i : Int) + 1).toNat = i + 1 := by omega
 have hz7 : IntKind.i64.wrap ((i : Int) + 1) = (i : Int) + 1 := IntWalk.i64_in _ (by omega)
 refine start_ (n := 24) (S := fun w' => w'.cell? ⟨g, 0, none⟩ = some (.string s) ∧ w'.cell? ⟨g, 1, none⟩ = some (.int .i64 i)) (ds := []) #[false, false, false, false, false, false, false, false, false, false, false, false, false, false, false, false, false, false, false, false, false, false, false, false] (by kernel_rfl) rfl rfl ⟨d0, d1⟩ (fun hHeld => ?_)
 refine pure_ (i := 0) (N := some 49) (v := ?_) (a' := ?_) #[true, false, false, false, false, false, false, false, false, false, false, false, false, false, false, false, false, false, false, false, false, false, false, false] rfl rfl (by kernel_rfl) (fun _ _ _ h => h) (Or.inl ⟨by rfl, ?_⟩) ?_ ?_
 rotate_left
 ·exact sTe2_1
 rotate_left
 ·exact nTe2_
 refine pure_ (i := 3) (N := some 52) (v := ?_) (a' := ?_) #[true, false, false, true, false, false, false, false, false, false, false, false, false, false, false, false, false, false, false, false, false, false, false, false] rfl rfl (by kernel_rfl) (fun _ _ _ h => h) (Or.inl ⟨by rfl, ?_⟩) ?_ ?_
 rotate_left
 ·exact sTe2_1
 rotate_left
 ·exact nTe2_
 refine pure_ (i := 4) (N := some 53) (v := ?_) (a' := ?_) #[true, false, false, true, true, false, false, false, false, false, false, false, false, false, false, false, false, false, false, false, false, false, false, false] rfl rfl (by kernel_rfl) (fun _ _ _ h => h) (Or.inl ⟨by rfl, ?_⟩) ?_ ?_
 rotate_left
 ·exact sTe2_1
 rotate_left
 ·exact nTe2_
 refine pure_ (i := 5) (N := some 54) (v := ?_) (a' := ?_) #[true, false, false, true, true, true, false, false, false, false, false, false, false, false, false, false, false, false, false, false, false, false, false, false] rfl rfl (by kernel_rfl) (fun _ _ _ h => h) (Or.inl ⟨by rfl, ?_⟩) ?_ ?_
 rotate_left
 ·exact sTe2_1
 rotate_left
 ·exact nTe2_
 refine pure_ (i := 6) (N := some 55) (v := ?_) (a' := ?_) #[true, false, false, true, true, true, true, false, false, false, false, false, false, false, false, false, false, false, false, false, false, false, false, false] rfl rfl (by kernel_rfl) (fun _ _ _ h => h) (Or.inl ⟨by rfl, ?_⟩) ?_ ?_
 rotate_left
 ·exact sTe2_1
 rotate_left
 ·exact nTe2_
 refine pure_ (i := 8) (N := some 57) (v := ?_) (a' := ?_) #[true, false, false, true, true, true, true, false, true, false, false, false, false, false, false, false, false, false, false, false, false, false, false, false] rfl rfl (by kernel_rfl) (fun _ _ _ h => h) (Or.inl ⟨by rfl, ?_⟩) ?_ ?_
 rotate_left
 ·exact sTe2_1
 rotate_left
 ·exact nTe2_
 refine pure_ (i := 9) (N := some 58) (v := ?_) (a' := ?_) #[true, false, false, true, true, true, true, false, true, true, false, false, false, false, false, false, false, false, false, false, false, false, false, false] rfl rfl (by kernel_rfl) (fun _ _ _ h => h) (Or.inl ⟨by rfl, ?_⟩) ?_ ?_
 rotate_left
 ·exact sTe2_1
 rotate_left
 ·exact nTe2_
 refine pure_ (i := 10) (N := some 59) (v := ?_) (a' := ?_) #[true, false, false, true, true, true, true, false, true, true, true, false, false, false, false, false, false, false, false, false, false, false, false, false] rfl rfl (by kernel_rfl) (fun _ _ _ h => h) (Or.inl ⟨by rfl, ?_⟩) ?_ ?_
 rotate_left
 ·exact sTe2_1
 rotate_left
 ·exact nTe2_
 refine pure_ (i := 11) (N := some 60) (v := ?_) (a' := ?_) #[true, false, false, true, true, true, true, false, true, true, true, true, false, false, false, false, false, false, false, false, false, false, false, false] rfl rfl (by kernel_rfl) (fun _ _ _ h => h) (Or.inl ⟨by rfl, ?_⟩) ?_ ?_
 rotate_left
 ·exact sTe2_1
 rotate_left
 ·exact nTe2_
 refine pure_ (i := 13) (N := some 62) (v := ?_) (a' := ?_) #[true, false, false, true, true, true, true, false, true, true, true, true, false, true, false, false, false, false, false, false, false, false, false, false] rfl rfl (by kernel_rfl) (fun _ _ _ h => h) (Or.inl ⟨by rfl, ?_⟩) ?_ ?_
 rotate_left
 ·exact sTe2_1
 rotate_left
 ·exact nTe2_
 refine pure_ (i := 14) (N := some 63) (v := ?_) (a' := ?_) #[true, false, false, true, true, true, true, false, true, true, true, true, false, true, true, false, false, false, false, false, false, false, false, false] rfl rfl (by kernel_rfl) (fun _ _ _ h => h) (Or.inl ⟨by rfl, ?_⟩) ?_ ?_
 rotate_left
 ·exact sTe2_1
 rotate_left
 ·exact nTe2_
 refine pure_ (i := 15) (N := some 64) (v := ?_) (a' := ?_) #[true, false, false, true, true, true, true, false, true, true, true, true, false, true, true, true, false, false, false, false, false, false, false, false] rfl rfl (by kernel_rfl) (fun _ _ _ h => h) (Or.inl ⟨by rfl, ?_⟩) ?_ ?_
 rotate_left
 ·exact sTe2_1
 rotate_left
 ·exact nTe2_
 refine pure_ (i := 16) (N := some 65) (v := ?_) (a' := ?_) #[true, false, false, true, true, true, true, false, true, true, true, true, false, true, true, true, true, false, false, false, false, false, false, false] rfl rfl (by kernel_rfl) (fun _ _ _ h => h) (Or.inl ⟨by rfl, ?_⟩) ?_ ?_
 rotate_left
 ·exact sTe2_1
 rotate_left
 ·exact nTe2_
 refine take_ (i := 7) (N := some 56) (v := ?_) (a' := ?_) #[true, false, false, true, true, true, true, true, true, true, true, true, false, true, true, true, true, false, false, false, false, false, false, false] rfl rfl (by kernel_rfl) (fun _ _ _ h => h) (Or.inl ⟨by rfl, ?_⟩) hHeld ?_ ?_
 rotate_left
 ·exact sTe2_4
 rotate_left
 ·exact nTe2_
 refine take_ (i := 12) (N := some 61) (v := ?_) (a' := ?_) #[true, false, false, true, true, true, true, true, true, true, true, true, true, true, true, true, true, false, false, false, false, false, false, false] rfl rfl (by kernel_rfl) (fun _ _ _ h => h) (Or.inl ⟨by rfl, ?_⟩) hHeld ?_ ?_
 rotate_left
 ·exact sTe2_4
 rotate_left
 ·exact nTe2_
 refine take_ (i := 17) (N := some 66) (v := ?_) (a' := ?_) #[true, false, false, true, true, true, true, true, true, true, true, true, true, true, true, true, true, true, false, false, false, false, false, false] rfl rfl (by kernel_rfl) (fun _ _ _ h => h) (Or.inl ⟨by rfl, ?_⟩) hHeld ?_ ?_
 rotate_left
 ·exact sTe2_4
 rotate_left
 ·exact nTe2_
 refine pure_ (i := 18) (N := some 67) (v := ?_) (a' := ?_) #[true, false, false, true, true, true, true, true, true, true, true, true, true, true, true, true, true, true, true, false, false, false, false, false] rfl rfl (by kernel_rfl) (fun _ _ _ h => h) (Or.inl ⟨by rfl, ?_⟩) ?_ ?_
 rotate_left
 ·exact sTe2_1
 rotate_left
 ·exact nTe2_
 refine pure_ (i := 19) (N := some 68) (v := ?_) (a' := ?_) #[true, false, false, true, true, true, true, true, true, true, true, true, true, true, true, true, true, true, true, true, false, false, false, false] rfl rfl (by kernel_rfl) (fun _ _ _ h => h) (Or.inl ⟨by rfl, ?_⟩) ?_ ?_
 rotate_left
 ·exact sTe2_1
 rotate_left
 ·exact nTe2_
 refine one_ (i := 1) (N := some 50) #[true, true, false, true, true, true, true, true, true, true, true, true, true, true, true, true, true, true, true, true, false, false, false, false] rfl rfl (by kernel_rfl) (by decide) (fun K hK => ?_)
 refine goes_ Tryd.func63 (by kernel_rfl) rfl #[.string ⟨#[40, 41, 59]⟩, .int .u8 (bt s (i : Int))] (by rfl) rfl rfl (by simp only [List.map_toArray, List.map_cons, List.map_nil]; rfl) ?_
 with_reducible refine (HQ.out _).mono ?_
 rintro e w' ⟨rfl, rfl⟩
 refine ⟨_, rfl, ?_⟩
 refine hK.out _ _ ⟨hHeld.1, hHeld.2⟩ (fun hHeld => ?_)
 clear hK K
 refine norm_ (a' := ?_) ?_ ?_
 rotate_left
 ·show Act.put _ (some 50) _ = _
  exact nTe2_
 refine pure_ (i := 2) (N := some 51) (v := ?_) (a' := ?_) #[true, true, true, true, true, true, true, true, true, true, true, true, true, true, true, true, true, true, true, true, false, false, false, false] rfl rfl (by kernel_rfl) (fun _ _ _ h => h) (Or.inl ⟨by rfl, ?_⟩) ?_ ?_
 rotate_left
 ·exact sTe2_1
 rotate_left
 ·exact nTe2_
 refine pure_ (i := 20) (N := some 69) (v := ?_) (a' := ?_) #[true, true, true, true, true, true, true, true, true, true, true, true, true, true, true, true, true, true, true, true, true, false, false, false] rfl rfl (by kernel_rfl) (fun _ _ _ h => h) (Or.inl ⟨by rfl, ?_⟩) ?_ ?_
 rotate_left
 ·exact sTe2_1
 rotate_left
 ·exact nTe2_
 refine one_ (i := 21) (N := none) #[true, true, true, true, true, true, true, true, true, true, true, true, true, true, true, true, true, true, true, true, true, true, false, false] rfl rfl (by kernel_rfl) (by decide) (fun K hK => ?_)
 refine skip_ (w1 := ?_) (by rfl) rfl ?_ ?_
 rotate_left
 ·go_simp
  rfl
 refine hK.out _ _ ⟨(Blk.c0 (blk_far (blk_drew HB1.out) (Ne.symm hne) _)), (Blk.c1 (blk_far (blk_drew HB1.out) (Ne.symm hne) _))⟩ (fun hHeld => ?_)
 clear hK K
 refine pure_ (i := 22) (N := some 70) (v := ?_) (a' := ?_) #[true, true, true, true, true, true, true, true, true, true, true, true, true, true, true, true, true, true, true, true, true, true, true, false] rfl rfl (by kernel_rfl) (fun _ _ _ h => h) (Or.inl ⟨by rfl, ?_⟩) ?_ ?_
 rotate_left
 ·exact sTe2_1
 rotate_left
 ·exact nTe2_
 refine one_ (i := 23) (N := none) #[true, true, true, true, true, true, true, true, true, true, true, true, true, true, true, true, true, true, true, true, true, true, true, true] rfl rfl (by kernel_rfl) (by decide) (fun K hK => ?_)
 refine skip_ (w1 := ?_) (by rfl) rfl ?_ ?_
 rotate_left
 ·go_simp
  rfl
 refine hK.out _ _ ⟨(Blk.c0 (blk_far (blk_far (blk_drew HB1.out) (Ne.symm hne) _) (Ne.symm hne) _)), (Blk.c1 (blk_far (blk_far (blk_drew HB1.out) (Ne.symm hne) _) (Ne.symm hne) _))⟩ (fun hHeld => ?_)
 clear hK K
 refine done_ (by kernel_rfl) ?_

 clear hz3 hz4 hz5 hz6 hz7
 go_wp2
 simp only [show wrap64 4 = (4 : Int) from by unfold wrap64; omega]
 have hT3 : ((((W1.setCell ⟨w.heap.size, 0, none⟩ (.int .i64 4)).setCell ⟨w.heap.size, 2, none⟩ (.string (s.extract i (i + 1)))).setCell ⟨g, 1, none⟩ (.int .i64 ((i : Int) + 1))).drew).heap[w.heap.size]? = some (.cells #[.int .i64 4, .int .i64 i, .string (s.extract i (i + 1))] 40 (0, 0)) :=
  blk_drew (blk_far (blk_put (blk_put HT1.out 0 (.int .i64 4) rfl) 2 (.string (s.extract i (i + 1))) rfl) hne _)
 have hB3 : Blk ((((W1.setCell ⟨w.heap.size, 0, none⟩ (.int .i64 4)).setCell ⟨w.heap.size, 2, none⟩ (.string (s.extract i (i + 1)))).setCell ⟨g, 1, none⟩ (.int .i64 ((i : Int) + 1))).drew) g s ((i : Int) + 1) L := blk_drew (Blk.at1 (blk_far (blk_far HB1.out (Ne.symm hne) _) (Ne.symm hne) _) _)
 have hO3 : Kd.R k40 40 ((((W1.setCell ⟨w.heap.size, 0, none⟩ (.int .i64 4)).setCell ⟨w.heap.size, 2, none⟩ (.string (s.extract i (i + 1)))).setCell ⟨g, 1, none⟩ (.int .i64 ((i : Int) + 1))).drew) base (fun k => k ≠ g) L ts :=
  Kd.R_mono (Kd.R_drew (Kd.R_far (Kd.R_far (Kd.R_far HO1.out (p := ⟨w.heap.size, 0, none⟩) (fun k hk => hk.2) _) (p := ⟨w.heap.size, 2, none⟩) (fun k hk => hk.2) _) (p := ⟨g, 1, none⟩) (fun k hk => hk.1) _)) (fun k hk => hk.1)
 have hW3 : Below base w ((((W1.setCell ⟨w.heap.size, 0, none⟩ (.int .i64 4)).setCell ⟨w.heap.size, 2, none⟩ (.string (s.extract i (i + 1)))).setCell ⟨g, 1, none⟩ (.int .i64 ((i : Int) + 1))).drew) := (((HW1.out.setCell (by simp; omega) _).setCell (by simp; omega) _).setCell (by simpa using hbase) _).drew
 clear t0 t2 tf0 tf2 d0 d1 df1 hne
 generalize ((((W1.setCell ⟨w.heap.size, 0, none⟩ (.int .i64 4)).setCell ⟨w.heap.size, 2, none⟩ (.string (s.extract i (i + 1)))).setCell ⟨g, 1, none⟩ (.int .i64 ((i : Int) + 1))).drew) = W3 at hT3 hB3 hO3 hW3 ⊢
 have HT3 := Aside0.mk hT3
 have HB3 := Aside0.mk hB3
 have HO3 := Aside0.mk hO3
 have HW3 := Aside0.mk hW3
 have t0 := (blk_cell hT3 0).trans rfl
 have t1 := (blk_cell hT3 1).trans rfl
 have t2 := (blk_cell hT3 2).trans rfl
 have d2 := hB3.c2
 have df := hB3.fr 2
 have hg3 := blk_lt hB3
 have hb3 := blk_lt hT3
 have hne : g ≠ w.heap.size := by omega
 clear hT3 hB3 hO3 hW3
 have hbase3 : base ≤ W3.heap.size := by omega
 go_region_law ((refine app_tok base g (by rfl) (.tmp 84) (.tmp 86) rfl L ts (⟨4, i, s.extract i (i + 1)⟩ : Tk) ?aV ?aX ?aG ?aO ?aS ?aL ?_; (case aV => first | rfl | (simp [Act.eval])); (case aX => first | rfl | (simp [Act.eval])); (case aG => exact hg3); (case aO => exact HO3.out); (case aS => exact hbase3); (case aL => omega); intro v1 w1 ho hb1 hg1; obtain ⟨A1, k1, e1⟩ := Kd.R_slice ho; subst e1; have hB4 : Blk w1 g s ((i : Int) + 1) L := blk_grown (blk_drew HB3.out) hg1 (Kd.R_away HO3.out (fun k hk => hk)); have f1' := hB4.fr 2; have c2' := hB4.c2; have HO4 := Aside0.mk ho; have HB4 := Aside0.mk hB4; have HW4 := Aside0.mk (HW3.out.trans hb1); clear ho hb1 hg1 hB4))
 all_goals
  go_wp2
  go_ret
  refine ⟨rfl, _, ?_, Kd.R_far HO4.out (fun k hk => hk) _, HW4.out.setCell (by simp; omega) _⟩
  have := blk_set HB4.out 2 (.slice A1 (ts ++ [(⟨4, i, s.extract i (i + 1)⟩ : Tk)]).length k1)
  simpa [Blk] using this
set_option maxHeartbeats 4000000 in
set_option maxRecDepth 100000 in
theorem token_p59 (s : ByteArray) (i : Nat) (L : Value) (ts : List Tk) (g base : Nat) (w : World) (hs : s.size ≤ 140737488351232) (hi : i < s.size) (hb : Blk w g s i L)
  (hO : Kd.R k40 40 w base (fun k => k ≠ g) L ts) (hbase : base ≤ g) (hts : ts.length ≤ 1000000000) (hl : pLetter (bt s i) = false) (q : bt s (i : Int) = 59) :
  Calls Tryd.prog 37 #[.pointer (some ⟨g, 0, none⟩)] w fun e w' =>
   e = .returned (.bool true) ∧ ∃ L', Blk w' g s ((i : Int) + 1) L' ∧ Kd.R k40 40 w' base (fun k => k ≠ g) L' (ts ++ [⟨5, i, s.extract i (i + 1)⟩]) ∧ Below base w w' := by
 have hg := blk_lt hb
 have c0 := hb.c0
 have c1 := hb.c1
 have hr := bt_range s (i : Int)
 have HLT := Aside0.mk (show ∀ W : World, Calls Tryd.prog 60 #[.int .u8 (bt s (i : Int))] W fun e w' => e = .returned (.bool false) ∧ Drawn0 W w' from fun W => lex_letter.calls _ _ W ((pLetter_some _ hr.1 hr.2).trans (by rw [hl])))
 have hlt2 : (i : Int) < (s.size : Int) := by omega
 have hx : ∀ h : i < s.size, ((s[i]'h).toNat : Int) = bt s (i : Int) := fun h => bt_at s (i : Int) h
 have b34 : (bt s (i : Int) == 34) = false := by rw [q]; rfl
 have b40 : (bt s (i : Int) == 40) = false := by rw [q]; rfl
 have b41 : (bt s (i : Int) == 41) = false := by rw [q]; rfl
 have b59 : (bt s (i : Int) == 59) = true := by rw [q]; rfl
 have HQ := Aside0.mk (show ∀ W : World, Calls Tryd.prog 63 #[.string ⟨#[40, 41, 59]⟩, .int .u8 (bt s (i : Int))] W fun e w' => e = .returned (.int .i64 2) ∧ w' = W from fun W => by rw [q]; exact Tryd.strings_IndexByte _ _ W)
 clear q
 have HB := Aside0.mk hb
 have HS := Aside0.mk hs
 have HO := Aside0.mk hO
 have HG0 := Aside0.mk hg
 have hu := Tryd.underlying40
 clear hb hO hl
 go_enter Tryd.func37, Tryd.ntmps37
 go_wp2
 go_quiet (fail)
 go_wp2_with fail
 refine (HLT.out _).mono ?_
 rintro e w' ⟨rfl, ⟨n, rfl⟩⟩
 have hne : w.heap.size ≠ g := by omega
 have hz1 : (i : Int) ≤ (i : Int) + 1 := by omega
 have hz2 : (i : Int) + 1 ≤ (s.size : Int) := by omega
 go_wp2
 have hT1 : ((w.alloc (.cells #[.int .i64 0, .int .i64 i, .string ⟨#[]⟩] 40)).drewN (nq + n)).heap[w.heap.size]? = some (.cells #[.int .i64 0, .int .i64 i, .string ⟨#[]⟩] 40 (0, 0)) := blk_drewN (blk_new w _) _
 have hb1 : Blk ((w.alloc (.cells #[.int .i64 0, .int .i64 i, .string ⟨#[]⟩] 40)).drewN (nq + n)) g s i L := blk_drewN (blk_alloc HB.out _) _
 have ho1 : Kd.R k40 40 ((w.alloc (.cells #[.int .i64 0, .int .i64 i, .string ⟨#[]⟩] 40)).drewN (nq + n)) base (fun k => k ≠ g ∧ k ≠ w.heap.size) L ts := Kd.R_mono (Kd.R_drewN (Kd.R_alloc (Kd.R_bound HO.out) _) _) (fun k hk => ⟨hk.1, Nat.ne_of_lt hk.2.2.1⟩)
 have hw1 : Below base w ((w.alloc (.cells #[.int .i64 0, .int .i64 i, .string ⟨#[]⟩] 40)).drewN (nq + n)) := (pw_below_drewN (below_alloc (Below.refl w.heap.size w) _) _).mono (by omega)
 generalize ((w.alloc (.cells #[.int .i64 0, .int .i64 i, .string ⟨#[]⟩] 40)).drewN (nq + n)) = W1 at hT1 hb1 ho1 hw1 ⊢
 clear c0 c1
 have d0 := hb1.c0
 have d1 := hb1.c1
 have df1 := hb1.fr 1
 have t0 := (blk_cell hT1 0).trans rfl
 have t2 := (blk_cell hT1 2).trans rfl
 have tf0 := blk_frozen hT1 0
 have tf2 := blk_frozen hT1 2
 have HT1 := Aside0.mk hT1
 have HB1 := Aside0.mk hb1
 have HO1 := Aside0.mk ho1
 have HW1 := Aside0.mk hw1
 clear hT1 hb1 ho1 hw1
 have hz3 : i ≤ i + 1 := by omega
 have hz4 : i + 1 ≤ s.size := by omega
 have hz5 : (0 : Int) ≤ (i : Int) + 1 := by omega
 have hz6 : ((i : Int) + 1).toNat = i + 1 := by omega
 have hz7 : IntKind.i64.wrap ((i : Int) + 1) = (i : Int) + 1 := IntWalk.i64_in _ (by omega)
 refine start_ (n := 24) (S := fun w' => w'.cell? ⟨g, 0, none⟩ = some (.string s) ∧ w'.cell? ⟨g, 1, none⟩ = some (.int .i64 i)) (ds := []) #[false, false, false, false, false, false, false, false, false, false, false, false, false, false, false, false, false, false, false, false, false, false, false, false] (by kernel_rfl) rfl rfl ⟨d0, d1⟩ (fun hHeld => ?_)
 refine pure_ (i := 0) (N := some 49) (v := ?_) (a' := ?_) #[true, false, false, false, false, false, false, false, false, false, false, false, false, false, false, false, false, false, false, false, false, false, false, false] rfl rfl (by kernel_rfl) (fun _ _ _ h => h) (Or.inl ⟨by rfl, ?_⟩) ?_ ?_
 rotate_left
 ·exact sTe2_1
 rotate_left
 ·exact nTe2_
 refine pure_ (i := 3) (N := some 52) (v := ?_) (a' := ?_) #[true, false, false, true, false, false, false, false, false, false, false, false, false, false, false, false, false, false, false, false, false, false, false, false] rfl rfl (by kernel_rfl) (fun _ _ _ h => h) (Or.inl ⟨by rfl, ?_⟩) ?_ ?_
 rotate_left
 ·exact sTe2_1
 rotate_left
 ·exact nTe2_
 refine pure_ (i := 4) (N := some 53) (v := ?_) (a' := ?_) #[true, false, false, true, true, false, false, false, false, false, false, false, false, false, false, false, false, false, false, false, false, false, false, false] rfl rfl (by kernel_rfl) (fun _ _ _ h => h) (Or.inl ⟨by rfl, ?_⟩) ?_ ?_
 rotate_left
 ·exact sTe2_1
 rotate_left
 ·exact nTe2_
 refine pure_ (i := 5) (N := some 54) (v := ?_) (a' := ?_) #[true, false, false, true, true, true, false, false, false, false, false, false, false, false, false, false, false, false, false, false, false, false, false, false] rfl rfl (by kernel_rfl) (fun _ _ _ h => h) (Or.inl ⟨by rfl, ?_⟩) ?_ ?_
 rotate_left
 ·exact sTe2_1
 rotate_left
 ·exact nTe2_
 refine pure_ (i := 6) (N := some 55) (v := ?_) (a' := ?_) #[true, false, false, true, true, true, true, false, false, false, false, false, false, false, false, false, false, false, false, false, false, false, false, false] rfl rfl (by kernel_rfl) (fun _ _ _ h => h) (Or.inl ⟨by rfl, ?_⟩) ?_ ?_
 rotate_left
 ·exact sTe2_1
 rotate_left
 ·exact nTe2_
 refine pure_ (i := 8) (N := some 57) (v := ?_) (a' := ?_) #[true, false, false, true, true, true, true, false, true, false, false, false, false, false, false, false, false, false, false, false, false, false, false, false] rfl rfl (by kernel_rfl) (fun _ _ _ h => h) (Or.inl ⟨by rfl, ?_⟩) ?_ ?_
 rotate_left
 ·exact sTe2_1
 rotate_left
 ·exact nTe2_
 refine pure_ (i := 9) (N := some 58) (v := ?_) (a' := ?_) #[true, false, false, true, true, true, true, false, true, true, false, false, false, false, false, false, false, false, false, false, false, false, false, false] rfl rfl (by kernel_rfl) (fun _ _ _ h => h) (Or.inl ⟨by rfl, ?_⟩) ?_ ?_
 rotate_left
 ·exact sTe2_1
 rotate_left
 ·exact nTe2_
 refine pure_ (i := 10) (N := some 59) (v := ?_) (a' := ?_) #[true, false, false, true, true, true, true, false, true, true, true, false, false, false, false, false, false, false, false, false, false, false, false, false] rfl rfl (by kernel_rfl) (fun _ _ _ h => h) (Or.inl ⟨by rfl, ?_⟩) ?_ ?_
 rotate_left
 ·exact sTe2_1
 rotate_left
 ·exact nTe2_
 refine pure_ (i := 11) (N := some 60) (v := ?_) (a' := ?_) #[true, false, false, true, true, true, true, false, true, true, true, true, false, false, false, false, false, false, false, false, false, false, false, false] rfl rfl (by kernel_rfl) (fun _ _ _ h => h) (Or.inl ⟨by rfl, ?_⟩) ?_ ?_
 rotate_left
 ·exact sTe2_1
 rotate_left
 ·exact nTe2_
 refine pure_ (i := 13) (N := some 62) (v := ?_) (a' := ?_) #[true, false, false, true, true, true, true, false, true, true, true, true, false, true, false, false, false, false, false, false, false, false, false, false] rfl rfl (by kernel_rfl) (fun _ _ _ h => h) (Or.inl ⟨by rfl, ?_⟩) ?_ ?_
 rotate_left
 ·exact sTe2_1
 rotate_left
 ·exact nTe2_
 refine pure_ (i := 14) (N := some 63) (v := ?_) (a' := ?_) #[true, false, false, true, true, true, true, false, true, true, true, true, false, true, true, false, false, false, false, false, false, false, false, false] rfl rfl (by kernel_rfl) (fun _ _ _ h => h) (Or.inl ⟨by rfl, ?_⟩) ?_ ?_
 rotate_left
 ·exact sTe2_1
 rotate_left
 ·exact nTe2_
 refine pure_ (i := 15) (N := some 64) (v := ?_) (a' := ?_) #[true, false, false, true, true, true, true, false, true, true, true, true, false, true, true, true, false, false, false, false, false, false, false, false] rfl rfl (by kernel_rfl) (fun _ _ _ h => h) (Or.inl ⟨by rfl, ?_⟩) ?_ ?_
 rotate_left
 ·exact sTe2_1
 rotate_left
 ·exact nTe2_
 refine pure_ (i := 16) (N := some 65) (v := ?_) (a' := ?_) #[true, false, false, true, true, true, true, false, true, true, true, true, false, true, true, true, true, false, false, false, false, false, false, false] rfl rfl (by kernel_rfl) (fun _ _ _ h => h) (Or.inl ⟨by rfl, ?_⟩) ?_ ?_
 rotate_left
 ·exact sTe2_1
 rotate_left
 ·exact nTe2_
 refine take_ (i := 7) (N := some 56) (v := ?_) (a' := ?_) #[true, false, false, true, true, true, true, true, true, true, true, true, false, true, true, true, true, false, false, false, false, false, false, false] rfl rfl (by kernel_rfl) (fun _ _ _ h => h) (Or.inl ⟨by rfl, ?_⟩) hHeld ?_ ?_
 rotate_left
 ·exact sTe2_4
 rotate_left
 ·exact nTe2_
 refine take_ (i := 12) (N := some 61) (v := ?_) (a' := ?_) #[true, false, false, true, true, true, true, true, true, true, true, true, true, true, true, true, true, false, false, false, false, false, false, false] rfl rfl (by kernel_rfl) (fun _ _ _ h => h) (Or.inl ⟨by rfl, ?_⟩) hHeld ?_ ?_
 rotate_left
 ·exact sTe2_4
 rotate_left
 ·exact nTe2_
 refine take_ (i := 17) (N := some 66) (v := ?_) (a' := ?_) #[true, false, false, true, true, true, true, true, true, true, true, true, true, true, true, true, true, true, false, false, false, false, false, false] rfl rfl (by kernel_rfl) (fun _ _ _ h => h) (Or.inl ⟨by rfl, ?_⟩) hHeld ?_ ?_
 rotate_left
 ·exact sTe2_4
 rotate_left
 ·exact nTe2_
 refine pure_ (i := 18) (N := some 67) (v := ?_) (a' := ?_) #[true, false, false, true, true, true, true, true, true, true, true, true, true, true, true, true, true, true, true, false, false, false, false, false] rfl rfl (by kernel_rfl) (fun _ _ _ h => h) (Or.inl ⟨by rfl, ?_⟩) ?_ ?_
 rotate_left
 ·exact sTe2_1
 rotate_left
 ·exact nTe2_
 refine pure_ (i := 19) (N := some 68) (v := ?_) (a' := ?_) #[true, false, false, true, true, true, true, true, true, true, true, true, true, true, true, true, true, true, true, true, false, false, false, false] rfl rfl (by kernel_rfl) (fun _ _ _ h => h) (Or.inl ⟨by rfl, ?_⟩) ?_ ?_
 rotate_left
 ·exact sTe2_1
 rotate_left
 ·exact nTe2_
 refine one_ (i := 1) (N := some 50) #[true, true, false, true, true, true, true, true, true, true, true, true, true, true, true, true, true, true, true, true, false, false, false, false] rfl rfl (by kernel_rfl) (by decide) (fun K hK => ?_)
 refine goes_ Tryd.func63 (by kernel_rfl) rfl #[.string ⟨#[40, 41, 59]⟩, .int .u8 (bt s (i : Int))] (by rfl) rfl rfl (by simp only [List.map_toArray, List.map_cons, List.map_nil]; rfl) ?_
 with_reducible refine (HQ.out _).mono ?_
 rintro e w' ⟨rfl, rfl⟩
 refine ⟨_, rfl, ?_⟩
 refine hK.out _ _ ⟨hHeld.1, hHeld.2⟩ (fun hHeld => ?_)
 clear hK K
 refine norm_ (a' := ?_) ?_ ?_
 rotate_left
 ·show Act.put _ (some 50) _ = _
  exact nTe2_
 refine pure_ (i := 2) (N := some 51) (v := ?_) (a' := ?_) #[true, true, true, true, true, true, true, true, true, true, true, true, true, true, true, true, true, true, true, true, false, false, false, false] rfl rfl (by kernel_rfl) (fun _ _ _ h => h) (Or.inl ⟨by rfl, ?_⟩) ?_ ?_
 rotate_left
 ·exact sTe2_1
 rotate_left
 ·exact nTe2_
 refine pure_ (i := 20) (N := some 69) (v := ?_) (a' := ?_) #[true, true, true, true, true, true, true, true, true, true, true, true, true, true, true, true, true, true, true, true, true, false, false, false] rfl rfl (by kernel_rfl) (fun _ _ _ h => h) (Or.inl ⟨by rfl, ?_⟩) ?_ ?_
 rotate_left
 ·exact sTe2_1
 rotate_left
 ·exact nTe2_
 refine one_ (i := 21) (N := none) #[true, true, true, true, true, true, true, true, true, true, true, true, true, true, true, true, true, true, true, true, true, true, false, false] rfl rfl (by kernel_rfl) (by decide) (fun K hK => ?_)
 refine skip_ (w1 := ?_) (by rfl) rfl ?_ ?_
 rotate_left
 ·go_simp
  rfl
 refine hK.out _ _ ⟨(Blk.c0 (blk_far (blk_drew HB1.out) (Ne.symm hne) _)), (Blk.c1 (blk_far (blk_drew HB1.out) (Ne.symm hne) _))⟩ (fun hHeld => ?_)
 clear hK K
 refine pure_ (i := 22) (N := some 70) (v := ?_) (a' := ?_) #[true, true, true, true, true, true, true, true, true, true, true, true, true, true, true, true, true, true, true, true, true, true, true, false] rfl rfl (by kernel_rfl) (fun _ _ _ h => h) (Or.inl ⟨by rfl, ?_⟩) ?_ ?_
 rotate_left
 ·exact sTe2_1
 rotate_left
 ·exact nTe2_
 refine one_ (i := 23) (N := none) #[true, true, true, true, true, true, true, true, true, true, true, true, true, true, true, true, true, true, true, true, true, true, true, true] rfl rfl (by kernel_rfl) (by decide) (fun K hK => ?_)
 refine skip_ (w1 := ?_) (by rfl) rfl ?_ ?_
 rotate_left
 ·go_simp
  rfl
 refine hK.out _ _ ⟨(Blk.c0 (blk_far (blk_far (blk_drew HB1.out) (Ne.symm hne) _) (Ne.symm hne) _)), (Blk.c1 (blk_far (blk_far (blk_drew HB1.out) (Ne.symm hne) _) (Ne.symm hne) _))⟩ (fun hHeld => ?_)
 clear hK K
 refine done_ (by kernel_rfl) ?_

 clear hz3 hz4 hz5 hz6 hz7
 go_wp2
 simp only [show wrap64 5 = (5 : Int) from by unfold wrap64; omega]
 have hT3 : ((((W1.setCell ⟨w.heap.size, 0, none⟩ (.int .i64 5)).setCell ⟨w.heap.size, 2, none⟩ (.string (s.extract i (i + 1)))).setCell ⟨g, 1, none⟩ (.int .i64 ((i : Int) + 1))).drew).heap[w.heap.size]? = some (.cells #[.int .i64 5, .int .i64 i, .string (s.extract i (i + 1))] 40 (0, 0)) :=
  blk_drew (blk_far (blk_put (blk_put HT1.out 0 (.int .i64 5) rfl) 2 (.string (s.extract i (i + 1))) rfl) hne _)
 have hB3 : Blk ((((W1.setCell ⟨w.heap.size, 0, none⟩ (.int .i64 5)).setCell ⟨w.heap.size, 2, none⟩ (.string (s.extract i (i + 1)))).setCell ⟨g, 1, none⟩ (.int .i64 ((i : Int) + 1))).drew) g s ((i : Int) + 1) L := blk_drew (Blk.at1 (blk_far (blk_far HB1.out (Ne.symm hne) _) (Ne.symm hne) _) _)
 have hO3 : Kd.R k40 40 ((((W1.setCell ⟨w.heap.size, 0, none⟩ (.int .i64 5)).setCell ⟨w.heap.size, 2, none⟩ (.string (s.extract i (i + 1)))).setCell ⟨g, 1, none⟩ (.int .i64 ((i : Int) + 1))).drew) base (fun k => k ≠ g) L ts :=
  Kd.R_mono (Kd.R_drew (Kd.R_far (Kd.R_far (Kd.R_far HO1.out (p := ⟨w.heap.size, 0, none⟩) (fun k hk => hk.2) _) (p := ⟨w.heap.size, 2, none⟩) (fun k hk => hk.2) _) (p := ⟨g, 1, none⟩) (fun k hk => hk.1) _)) (fun k hk => hk.1)
 have hW3 : Below base w ((((W1.setCell ⟨w.heap.size, 0, none⟩ (.int .i64 5)).setCell ⟨w.heap.size, 2, none⟩ (.string (s.extract i (i + 1)))).setCell ⟨g, 1, none⟩ (.int .i64 ((i : Int) + 1))).drew) := (((HW1.out.setCell (by simp; omega) _).setCell (by simp; omega) _).setCell (by simpa using hbase) _).drew
 clear t0 t2 tf0 tf2 d0 d1 df1 hne
 generalize ((((W1.setCell ⟨w.heap.size, 0, none⟩ (.int .i64 5)).setCell ⟨w.heap.size, 2, none⟩ (.string (s.extract i (i + 1)))).setCell ⟨g, 1, none⟩ (.int .i64 ((i : Int) + 1))).drew) = W3 at hT3 hB3 hO3 hW3 ⊢
 have HT3 := Aside0.mk hT3
 have HB3 := Aside0.mk hB3
 have HO3 := Aside0.mk hO3
 have HW3 := Aside0.mk hW3
 have t0 := (blk_cell hT3 0).trans rfl
 have t1 := (blk_cell hT3 1).trans rfl
 have t2 := (blk_cell hT3 2).trans rfl
 have d2 := hB3.c2
 have df := hB3.fr 2
 have hg3 := blk_lt hB3
 have hb3 := blk_lt hT3
 have hne : g ≠ w.heap.size := by omega
 clear hT3 hB3 hO3 hW3
 have hbase3 : base ≤ W3.heap.size := by omega
 go_region_law ((refine app_tok base g (by rfl) (.tmp 84) (.tmp 86) rfl L ts (⟨5, i, s.extract i (i + 1)⟩ : Tk) ?aV ?aX ?aG ?aO ?aS ?aL ?_; (case aV => first | rfl | (simp [Act.eval])); (case aX => first | rfl | (simp [Act.eval])); (case aG => exact hg3); (case aO => exact HO3.out); (case aS => exact hbase3); (case aL => omega); intro v1 w1 ho hb1 hg1; obtain ⟨A1, k1, e1⟩ := Kd.R_slice ho; subst e1; have hB4 : Blk w1 g s ((i : Int) + 1) L := blk_grown (blk_drew HB3.out) hg1 (Kd.R_away HO3.out (fun k hk => hk)); have f1' := hB4.fr 2; have c2' := hB4.c2; have HO4 := Aside0.mk ho; have HB4 := Aside0.mk hB4; have HW4 := Aside0.mk (HW3.out.trans hb1); clear ho hb1 hg1 hB4))
 all_goals
  go_wp2
  go_ret
  refine ⟨rfl, _, ?_, Kd.R_far HO4.out (fun k hk => hk) _, HW4.out.setCell (by simp; omega) _⟩
  have := blk_set HB4.out 2 (.slice A1 (ts ++ [(⟨5, i, s.extract i (i + 1)⟩ : Tk)]).length k1)
  simpa [Blk] using this
end Go.Proofs.YtngedmioeodmfaaDoor.Lx
namespace Go.Proofs.YtngedmioeodmfaaDoor.Lx
open Go.RowKit Go.Proofs.YtngedmioeodmfaaDoor.Pr Go.Proofs.YtngedmioeodmfaaDoorW.PrintWords Go.Proofs.YtngedmioeodmfaaDoorW.PrintLast Go.Proofs.YtngedmioeodmfaaDoorW.PrintMore
theorem quo_ge (s : ByteArray) : ∀ d i out, i ≤ s.size → i ≤ (quo s d i out).2.1 ∧ (quo s d i out).2.1 ≤ s.size := by
 intro d
 induction d with
 | zero => intro i out h; exact ⟨Nat.le_refl _, h⟩
 | succ d ih =>
  intro i out h
  rw [quo]
  repeat' split
  all_goals try (simp only; omega)
  ·have := ih (i + 2) (out ++ [bt s ((i + 1 : Nat) : Int)]) (by omega); omega
  ·have := ih (i + 1) (out ++ [bt s (i : Int)]) (by omega); omega
theorem letter_word : ∀ c : Fin 256, pLetter (c.val : Int) = true → pWord (c.val : Int) = true := by decide +kernel
theorem wEnd_lt (s : ByteArray) (i : Nat) (h : i < s.size) (hl : pLetter (bt s i) = true) : i < wEnd s i := by
 have hr := bt_range s (i : Int)
 obtain ⟨q, hq⟩ : ∃ q : Fin 256, (q.val : Int) = bt s (i : Int) := ⟨⟨(bt s (i : Int)).toNat, by omega⟩, by simp; omega⟩
 have hw : pWord (bt s (i : Int)) = true := by rw [← hq]; exact letter_word q (by rw [hq]; exact hl)
 have e : wEnd s i = rowEnd s pWord (s.size - (i + 1)) (i + 1) := rowEnd_go s pWord i h hw
 have := rowEnd_le s pWord (s.size - (i + 1)) (i + 1) (by omega)
 omega
theorem tokE_ge (s : ByteArray) (i : Nat) (h : i < s.size) {t : Tk} {j : Nat} {ok : Bool} (e : tokE s i = some (t, j, ok)) : i < j ∧ j ≤ s.size := by
 unfold tokE at e
 split at e
 ·rename_i hl
  simp only [Option.some.injEq, Prod.mk.injEq] at e
  obtain ⟨_, rfl, _⟩ := e
  exact ⟨wEnd_lt s i h hl, (wEnd_le s i (by omega)).2⟩
 ·split at e
  ·simp only [Option.some.injEq, Prod.mk.injEq] at e
   obtain ⟨_, rfl, _⟩ := e
   have := quo_ge s (s.size - (i + 1)) (i + 1) [] (by omega)
   unfold quoE; omega
  ·split at e
   ·simp only [Option.some.injEq, Prod.mk.injEq] at e
    obtain ⟨_, rfl, _⟩ := e
    omega
   ·cases e
def runF (s : ByteArray) : Nat → Nat → List Tk → List Tk × Option Nat
 | 0, _, ts => (ts, none)
 | d + 1, i, ts =>
  if i < s.size then
   match tokE s i with
   | some (t, j, true) => runF s d (btw s j) (ts ++ [t])
   | some (t, j, false) => (ts ++ [t], some j)
   | none => (ts, some i)
  else (ts, none)
def run (s : ByteArray) (i : Nat) (ts : List Tk) : List Tk × Option Nat := runF s (s.size - i) i ts
theorem runF_more (s : ByteArray) : ∀ d d' i ts, s.size - i ≤ d → s.size - i ≤ d' → runF s d i ts = runF s d' i ts := by
 intro d
 induction d with
 | zero => intro d' i ts h h'; cases d' with
  | zero => rfl
  | succ d' => rw [runF, runF, if_neg (by omega)]
 | succ d ih =>
  intro d' i ts h h'
  cases d' with
  | zero => rw [runF, runF, if_neg (by omega)]
  | succ d' =>
   rw [runF, runF]
   by_cases q : i < s.size
   ·rw [if_pos q, if_pos q]
    match e : tokE s i with
    | some (t, j, true) =>
     have hj := tokE_ge s i q e
     have hb := btw_le s j hj.2
     exact ih d' _ _ (by omega) (by omega)
    | some (t, j, false) => rfl
    | none => rfl
   ·rw [if_neg q, if_neg q]
theorem run_stop (s : ByteArray) (i : Nat) (ts : List Tk) (h : ¬ i < s.size) : run s i ts = (ts, none) := by
 unfold run; rw [show s.size - i = 0 by omega, runF]
theorem run_go (s : ByteArray) (i : Nat) (ts : List Tk) (h : i < s.size) {t : Tk} {j : Nat} (e : tokE s i = some (t, j, true)) : run s i ts = run s (btw s j) (ts ++ [t]) := by
 have hj := tokE_ge s i h e
 have hb := btw_le s j hj.2
 unfold run
 rw [show s.size - i = (s.size - i - 1) + 1 by omega, runF, if_pos h, e]
 exact runF_more s _ _ _ _ (by omega) (by omega)
theorem run_bad (s : ByteArray) (i : Nat) (ts : List Tk) (h : i < s.size) {t : Tk} {j : Nat} (e : tokE s i = some (t, j, false)) : run s i ts = (ts ++ [t], some j) := by
 unfold run
 rw [show s.size - i = (s.size - i - 1) + 1 by omega, runF, if_pos h, e]
theorem run_none (s : ByteArray) (i : Nat) (ts : List Tk) (h : i < s.size) (e : tokE s i = none) : run s i ts = (ts, some i) := by
 unfold run
 rw [show s.size - i = (s.size - i - 1) + 1 by omega, runF, if_pos h, e]
theorem token_calls (s : ByteArray) (i : Nat) (L : Value) (ts : List Tk) (g base : Nat) (w : World) (hs : s.size ≤ 140737488351232) (hi : i < s.size) (hb : Blk w g s i L)
  (hO : Kd.R k40 40 w base (fun k => k ≠ g) L ts) (hbase : base ≤ g) (hts : ts.length ≤ 1000000000) {t : Tk} {j : Nat} {ok : Bool} (ht : tokE s i = some (t, j, ok)) :
  Calls Tryd.prog 37 #[.pointer (some ⟨g, 0, none⟩)] w fun e w' =>
   e = .returned (.bool ok) ∧ ∃ L', Blk w' g s (j : Nat) L' ∧ Kd.R k40 40 w' base (fun k => k ≠ g) L' (ts ++ [t]) ∧ Below base w w' := by
 unfold tokE at ht
 split at ht
 ·rename_i hl
  simp only [Option.some.injEq, Prod.mk.injEq] at ht
  obtain ⟨rfl, rfl, rfl⟩ := ht
  exact token_letter s i L ts g base w hs hi hb hO hbase hts hl
 ·rename_i hl
  have hl' : pLetter (bt s (i : Int)) = false := by cases h : pLetter (bt s (i : Int)) with
   | true => exact absurd h hl
   | false => rfl
  split at ht
  ·rename_i q
   simp only [Option.some.injEq, Prod.mk.injEq] at ht
   obtain ⟨rfl, rfl, rfl⟩ := ht
   exact token_quote s i L ts g base w hs hi hb hO hbase hts hl' q _ _ _ rfl
  ·split at ht
   ·rename_i q
    simp only [Option.some.injEq, Prod.mk.injEq] at ht
    obtain ⟨rfl, rfl, rfl⟩ := ht
    have hc : (((i + 1 : Nat)) : Int) = (i : Int) + 1 := by omega
    rw [hc]
    rcases q with q | q | q
    ·have := token_p40 s i L ts g base w hs hi hb hO hbase hts hl' q; rw [q]; exact this
    ·have := token_p41 s i L ts g base w hs hi hb hO hbase hts hl' q; rw [q]; exact this
    ·have := token_p59 s i L ts g base w hs hi hb hO hbase hts hl' q; rw [q]; exact this
   ·cases ht
theorem token_nothing (s : ByteArray) (i : Nat) (L : Value) (ts : List Tk) (g base : Nat) (w : World) (hs : s.size ≤ 140737488351232) (hi : i < s.size) (hb : Blk w g s i L)
  (hO : Kd.R k40 40 w base (fun k => k ≠ g) L ts) (hbase : base ≤ g) (hts : ts.length ≤ 1000000000) (ht : tokE s i = none) :
  Calls Tryd.prog 37 #[.pointer (some ⟨g, 0, none⟩)] w fun e w' => e = .returned (.bool false) ∧ Blk w' g s (i : Nat) L ∧ Below base w w' := by
 unfold tokE at ht
 split at ht
 ·cases ht
 ·rename_i hl
  split at ht
  ·cases ht
  ·rename_i q34
   split at ht
   ·cases ht
   ·rename_i q
    exact token_none s i L ts g base w hs hi hb hO hbase hts (by cases h : pLetter (bt s (i : Int)) with
     | true => exact absurd h hl
     | false => rfl) q34 (fun h => q (.inl h)) (fun h => q (.inr (.inl h))) (fun h => q (.inr (.inr h)))
def tokRes (s : ByteArray) (bad : Int) : List Tk × Int × Int :=
 let r := run s (btw s 0) []
 let b := match r.2 with
  | some j => min bad (j : Int)
  | none => bad
 if b ≤ (s.size : Int) then ([], 8, b) else (r.1, 0, 0)
set_option maxHeartbeats 4000000 in
set_option maxRecDepth 100000 in
theorem tokens_big (s : ByteArray) (w : World) (h : s.size > 3000) :
  Calls Tryd.prog 15 #[.string s] w fun e w' => e = .returned (.tuple #[.slice none 0 0, .agg #[.int .i64 2, .int .i64 0]]) ∧ Below w.heap.size w w' := by
 have h1 : decide (3000 < s.size) = true := decide_eq_true h
 have hu := Tryd.underlying30
 go_enter Tryd.func15, Tryd.ntmps15
 go_wp2
 exact bodyPost_ret (v := .tuple #[.slice none 0 0, .agg #[.int .i64 2, .int .i64 0]]) (by simp [results, Tryd.results15, go_sem]) rfl ⟨rfl, below_alloc (Below.refl _ _) _⟩
set_option maxHeartbeats 4000000 in
set_option maxRecDepth 100000 in
theorem tokens_calls (s : ByteArray) (k : Nat) (bad : Int) (w : World) (hL : Laid w) (h : s.size ≤ 3000) (hw : lex_wrong.f k s = some bad) (r1 : List Tk) (r2 r3 : Int) (hr : tokRes s bad = (r1, r2, r3)) :
  Calls Tryd.prog 15 #[.string s] w fun e w' => ∃ v0_ : Value, e = .returned (.tuple #[v0_, .agg #[.int .i64 r2, .int .i64 r3]]) ∧ Kd.R k40 40 w' w.heap.size (fun _ => True) v0_ r1 ∧ Below w.heap.size w w' := by
 have h1 : decide (3000 < s.size) = false := decide_eq_false (by omega)
 have h1i : decide ((3000 : Int) < (s.size : Int)) = false := decide_eq_false (by omega)
 have h1j : ¬ ((3000 : Int) < (s.size : Int)) := by omega
 have hu := Tryd.underlying30
 have HL := Aside0.mk hL
 have HW := Aside0.mk hw
 have HR := Aside0.mk hr
 have HS := Aside0.mk h
 clear hL hw hr h
 go_enter Tryd.func15, Tryd.ntmps15
 go_wp2_with fail
 refine (lex_wrong.calls k s bad _ ?_ HW.out).mono ?_
 ·exact HL.out.below (by exact below_alloc (below_alloc (Below.refl _ _) _) _)
 rintro e w1 ⟨rfl, hb1⟩
 have hF1 : w1.heap[w.heap.size]? = some (.cells #[.int .i64 0, .int .i64 0] 30 (0, 0)) := by
  rw [hb1.block _ (by simp; omega)]
  exact blk_alloc (blk_new w _) _
 have hB1 : Blk w1 (w.heap.size + 1) s (0 : Nat) (.slice none 0 0) := by
  unfold Blk
  rw [hb1.block _ (by simp)]
  have := blk_new (w.alloc (.cells #[.int .i64 0, .int .i64 0] 30)) (.cells #[.string s, .int .i64 0, .slice none 0 0] 79)
  simpa using this
 have hW1 : Below w.heap.size w w1 := Below.trans (below_alloc (below_alloc (Below.refl _ _) _) _) (hb1.mono (by simp; omega))
 clear hb1
 have HB1 := Aside0.mk hB1
 have HF1 := Aside0.mk hF1
 have HW1 := Aside0.mk hW1
 clear hB1 hF1 hW1
 go_wp2_with fail
 refine (between_calls s 0 _ _ _ (by have := HS.out; omega) (Nat.zero_le _) HB1.out).mono ?_
 rintro e w2 ⟨rfl, hb2, hk2⟩
 have HB2 := Aside0.mk hb2
 have HF2 := Aside0.mk (hk2.k.blk HF1.out (by omega) (by simp))
 have HW2 := Aside0.mk (HW1.out.trans (hk2.b.mono (by omega)))
 clear hb2 hk2 HB1 HF1 HW1
 have hRR : tokRes s bad = tokRes s bad := rfl
 obtain ⟨RR, hRun⟩ : ∃ R, run s (btw s 0) [] = R := ⟨_, rfl⟩
 have HRun := Aside0.mk hRun
 clear hRR hRun
 go_wp2_with fail
 have HRun0 := HRun
 go_loopg [5] (s.size) (fun gk v5 w' => ∃ (i : Nat) (ts : List Tk) (L : Value), v5 = .int .i64 bad ∧ Aside0 (i ≤ s.size) ∧ Aside0 (run s i ts = RR) ∧ Aside0 (Blk w' (w.heap.size + 1) s i L) ∧ Aside0 (w'.heap[w.heap.size]? = some (.cells #[.int .i64 0, .int .i64 0] 30 (0, 0))) ∧ Aside0 (Below w.heap.size w w') ∧ Aside0 (Kd.R k40 40 w' (w.heap.size + 1) (fun k => k ≠ w.heap.size + 1) L ts) ∧ Aside0 (ts.length ≤ i) ∧ Aside0 (s.size - i ≤ gk))
 case atStart =>
  have hbl := btw_le s 0 (Nat.zero_le _)
  exact ⟨btw s 0, [], _, rfl, ⟨hbl.2⟩, HRun, HB2, HF2, HW2, ⟨Kd.R_nil _ _ _ _ _⟩, ⟨Nat.zero_le _⟩, ⟨by omega⟩⟩
 case round =>
  clear HRun HB2 HF2 HW2
  obtain ⟨i, ts, L, rfl, Hi, HRun, HB, HF, HW2, HO, HLn, HG⟩ := hrel
  have hi := Hi.out
  have c0 := HB.out.c0
  have c1 := HB.out.c1
  by_cases hlt : i < s.size
  ·have e1 : decide (s.size ≤ i) = false := decide_eq_false (by omega)
   have e1i : decide ((s.size : Int) ≤ (i : Int)) = false := decide_eq_false (by omega)
   match htk : tokE s i with
   | none =>
    have hst := run_none s i ts hlt htk
    rw [HRun.out] at hst
    subst hst
    go_wp2_with (first | (go_at_call 36; refine (end_calls s i L _ _ HB.out).mono ?_; rintro e w' ⟨rfl, ⟨n, rfl⟩⟩))
    refine (token_nothing s i L ts _ (w.heap.size + 1) _ (by have := HS.out; omega) hlt (by exact blk_drewN HB.out _) (by exact Kd.R_drewN HO.out _) (Nat.le_refl _) (by have := HS.out; have := HLn.out; omega) htk).mono ?_
    rintro e w3 ⟨rfl, hb3, hw3⟩
    have c1 := hb3.c1
    have c0 := hb3.c0
    have c2 := hb3.c2
    have hF3 : w3.heap[w.heap.size]? = some (.cells #[.int .i64 0, .int .i64 0] 30 (0, 0)) := by
     rw [hw3.block _ (by omega)]
     exact HF.out
    have f0 := blk_frozen hF3 0
    have f1 := blk_frozen hF3 1
    have d0 := (blk_cell hF3 0).trans rfl
    have d1 := (blk_cell hF3 1).trans rfl
    have HW3 := Aside0.mk ((HW2.out.trans (pw_below_drewN (Below.refl _ _) _)).trans (hw3.mono (by omega)))
    have HR2 := HR.out
    unfold tokRes at HR2
    rw [HRun0.out] at HR2
    clear hF3
    by_cases hbad : min bad (i : Int) ≤ (s.size : Int)
    ·have b1 : decide (min bad (i : Int) ≤ (s.size : Int)) = true := decide_eq_true hbad
     simp only [if_pos hbad, Prod.mk.injEq] at HR2
     obtain ⟨rfl, rfl, rfl⟩ := HR2
     go_wp2_with fail
     all_goals
      exact bodyPost_ret (v := .tuple #[.slice none 0 0, .agg #[.int .i64 8, .int .i64 (min bad (i : Int))]]) (by simp [results, Tryd.results15, go_sem, d0, d1, hu]) rfl ⟨_, rfl, Kd.R_nil _ _ _ _ _, (HW3.out.setCell (Nat.le_refl _) _).setCell (Nat.le_refl _) _⟩
    ·exact absurd (by omega) hbad
   | some (t, j, true) =>
    go_wp2_with (first | (go_at_call 36; refine (end_calls s i L _ _ HB.out).mono ?_; rintro e w' ⟨rfl, ⟨n, rfl⟩⟩))
    refine (token_calls s i L ts _ (w.heap.size + 1) _ (by have := HS.out; omega) hlt (by exact blk_drewN HB.out _) (by exact Kd.R_drewN HO.out _) (Nat.le_refl _) (by have := HS.out; have := HLn.out; omega) htk).mono ?_
    rintro e w3 ⟨rfl, L3, hb3, ho3, hw3⟩
    have hj := tokE_ge s i hlt htk
    go_wp2_with fail
    refine (between_calls s j _ _ _ (by have := HS.out; omega) hj.2 (by exact hb3)).mono ?_
    rintro e w4 ⟨rfl, hb4, hk4⟩
    have hbl := btw_le s j hj.2
    go_wp2
    go_roundg (s.size - btw s j)
    case measure => have := HG.out; omega
    case rel =>
     refine ⟨btw s j, ts ++ [t], L3, rfl, ⟨by omega⟩, ⟨by rw [← HRun.out]; exact (run_go s i ts hlt htk).symm⟩, ⟨hb4⟩, ⟨?_⟩, ⟨?_⟩, ⟨?_⟩, ⟨by have := HLn.out; simp; omega⟩, ⟨Nat.le_refl _⟩⟩
     ·refine hk4.k.blk ?_ (by omega) (by simp)
      rw [hw3.block _ (by omega)]
      exact HF.out
     ·exact (HW2.out.trans (pw_below_drewN (Below.refl _ _) _)).trans ((hw3.mono (by omega)).trans (hk4.b.mono (by omega)))
     ·exact Kd.R_keep ho3 hk4.k (fun k hk => hk)
   | some (t, j, false) =>
    have hst := run_bad s i ts hlt htk
    rw [HRun.out] at hst
    subst hst
    go_wp2_with (first | (go_at_call 36; refine (end_calls s i L _ _ HB.out).mono ?_; rintro e w' ⟨rfl, ⟨n, rfl⟩⟩))
    refine (token_calls s i L ts _ (w.heap.size + 1) _ (by have := HS.out; omega) hlt (by exact blk_drewN HB.out _) (by exact Kd.R_drewN HO.out _) (Nat.le_refl _) (by have := HS.out; have := HLn.out; omega) htk).mono ?_
    rintro e w3 ⟨rfl, L3, hb3, ho3, hw3⟩
    have c1 := hb3.c1
    have c0 := hb3.c0
    have c2 := hb3.c2
    have hF3 : w3.heap[w.heap.size]? = some (.cells #[.int .i64 0, .int .i64 0] 30 (0, 0)) := by
     rw [hw3.block _ (by omega)]
     exact HF.out
    have f0 := blk_frozen hF3 0
    have f1 := blk_frozen hF3 1
    have d0 := (blk_cell hF3 0).trans rfl
    have d1 := (blk_cell hF3 1).trans rfl
    have HW3 := Aside0.mk ((HW2.out.trans (pw_below_drewN (Below.refl _ _) _)).trans (hw3.mono (by omega)))
    have HR2 := HR.out
    unfold tokRes at HR2
    rw [HRun0.out] at HR2
    clear hF3
    by_cases hbad : min bad (j : Int) ≤ (s.size : Int)
    ·have b1 : decide (min bad (j : Int) ≤ (s.size : Int)) = true := decide_eq_true hbad
     simp only [if_pos hbad, Prod.mk.injEq] at HR2
     obtain ⟨rfl, rfl, rfl⟩ := HR2
     go_wp2_with fail
     all_goals
      exact bodyPost_ret (v := .tuple #[.slice none 0 0, .agg #[.int .i64 8, .int .i64 (min bad (j : Int))]]) (by simp [results, Tryd.results15, go_sem, d0, d1, hu]) rfl ⟨_, rfl, Kd.R_nil _ _ _ _ _, (HW3.out.setCell (Nat.le_refl _) _).setCell (Nat.le_refl _) _⟩
    ·have b1 : decide (min bad (j : Int) ≤ (s.size : Int)) = false := decide_eq_false hbad
     simp only [if_neg hbad, Prod.mk.injEq] at HR2
     obtain ⟨rfl, rfl, rfl⟩ := HR2
     go_wp2_with fail
     all_goals
      exact bodyPost_ret (v := .tuple #[L3, .agg #[.int .i64 0, .int .i64 0]]) (by simp [results, Tryd.results15, go_sem, d0, d1, hu]) rfl ⟨_, rfl, Kd.R_lower (Kd.R_mono (Kd.R_far (Kd.R_far (Kd.R_bound ho3) (p := ⟨w.heap.size, 0, none⟩) (fun k hk => Nat.ne_of_gt hk.2.1) _) (p := ⟨w.heap.size, 1, none⟩) (fun k hk => Nat.ne_of_gt hk.2.1) _) (fun _ _ => trivial)) (by omega), (HW3.out.setCell (Nat.le_refl _) _).setCell (Nat.le_refl _) _⟩
  ·have e1 : decide (s.size ≤ i) = true := decide_eq_true (by omega)
   have e1i : decide ((s.size : Int) ≤ (i : Int)) = true := decide_eq_true (by omega)
   have hst := run_stop s i ts hlt
   rw [HRun.out] at hst
   subst hst
   have HR2 := HR.out
   unfold tokRes at HR2
   rw [HRun0.out] at HR2
   have c2 := HB.out.c2
   have f0 := blk_frozen HF.out 0
   have f1 := blk_frozen HF.out 1
   have d0 := (blk_cell HF.out 0).trans rfl
   have d1 := (blk_cell HF.out 1).trans rfl
   by_cases hbad : bad ≤ (s.size : Int)
   ·have b1 : decide (bad ≤ (s.size : Int)) = true := decide_eq_true hbad
    simp only [if_pos hbad, Prod.mk.injEq] at HR2
    obtain ⟨rfl, rfl, rfl⟩ := HR2
    go_wp2_with (go_at_call 36; refine (end_calls s i L _ _ HB.out).mono ?_; rintro e w' ⟨rfl, ⟨n, rfl⟩⟩)
    all_goals
     exact bodyPost_ret (v := .tuple #[.slice none 0 0, .agg #[.int .i64 8, .int .i64 bad]]) (by simp [results, Tryd.results15, go_sem, d0, d1, hu]) rfl ⟨_, rfl, Kd.R_nil _ _ _ _ _, ((pw_below_drewN HW2.out _).setCell (Nat.le_refl _) _).setCell (Nat.le_refl _) _⟩
   ·have b1 : decide (bad ≤ (s.size : Int)) = false := decide_eq_false hbad
    simp only [if_neg hbad, Prod.mk.injEq] at HR2
    obtain ⟨rfl, rfl, rfl⟩ := HR2
    go_wp2_with (go_at_call 36; refine (end_calls s i L _ _ HB.out).mono ?_; rintro e w' ⟨rfl, ⟨n, rfl⟩⟩)
    all_goals
     exact bodyPost_ret (v := .tuple #[L, .agg #[.int .i64 0, .int .i64 0]]) (by simp [results, Tryd.results15, go_sem, d0, d1, hu]) rfl ⟨_, rfl, Kd.R_lower (Kd.R_mono (Kd.R_far (Kd.R_far (Kd.R_bound (Kd.R_drewN HO.out _)) (p := ⟨w.heap.size, 0, none⟩) (fun k hk => Nat.ne_of_gt hk.2.1) _) (p := ⟨w.heap.size, 1, none⟩) (fun k hk => Nat.ne_of_gt hk.2.1) _) (fun _ _ => trivial)) (by omega), ((pw_below_drewN HW2.out _).setCell (Nat.le_refl _) _).setCell (Nat.le_refl _) _⟩
end Go.Proofs.YtngedmioeodmfaaDoor.Lx
namespace Go.Proofs.YtngedmioeodmfaaDoor.Pu
open Go.RowKit Go.Proofs.YtngedmioeodmfaaDoor.Pr Go.Proofs.YtngedmioeodmfaaDoorW.PrintWords
theorem w64 {n : Int} (h0 : -9223372036854775808 ≤ n) (h1 : n ≤ 9223372036854775807) : wrap64 n = n := by
 unfold wrap64; omega
theorem bytesOf_range (s : ByteArray) : ∀ x ∈ bytesOf s, 0 ≤ x ∧ x ≤ 255 := by
 intro x hx
 unfold bytesOf at hx
 obtain ⟨b, _, rfl⟩ := List.mem_map.1 hx
 have := UInt8.toNat_lt b
 omega
theorem bytesOf_str (xs : List Int) (h : ∀ x ∈ xs, 0 ≤ x ∧ x ≤ 255) : bytesOf (strOfNums xs) = xs := by
 unfold bytesOf
 rw [strOfNums_data, List.map_map]
 conv => rhs; rw [← List.map_id xs]
 apply List.map_congr_left
 intro x hx
 have := h x hx
 simp [Function.comp]
 omega
theorem bt_drop (s : ByteArray) (i : Nat) (h : i < s.size) : (bytesOf s).drop i = bt s (i : Int) :: (bytesOf s).drop (i + 1) := by
 have hl : i < (bytesOf s).length := by rw [bytesOf_length]; exact h
 rw [List.drop_eq_getElem_cons hl]
 congr 1
 rw [← rd_bytesOf, rd, Int.toNat_natCast, List.getD_eq_getElem?_getD, List.getElem?_eq_getElem hl]
 rfl
theorem bytesOf_inj {s t : ByteArray} (h : bytesOf s = bytesOf t) : s = t := by
 have h2 : s.data.toList = t.data.toList := by
  unfold bytesOf at h
  refine (List.map_inj_right ?_).1 h
  intro a b hab
  exact UInt8.toNat_inj.1 (by omega)
 cases s with | mk a => cases t with | mk b => exact congrArg ByteArray.mk (Array.ext' h2)
theorem str_bytesOf (s : ByteArray) : strOfNums (bytesOf s) = s := by
 apply bytesOf_inj
 exact bytesOf_str _ (bytesOf_range s)
theorem wraps_i64 (n : Int) (h₀ : 0 ≤ n) (h₁ : n < 2 ^ 63) : IntKind.i64.wrap n = n := by rw [IntKind.wrap_i64]; omega
theorem i64_join (i : Nat) (x y : Int) (hx₀ : 0 ≤ x) (hx : x % 2 ^ i = 0) (hx₁ : x < 2 ^ 63) (hy₀ : 0 ≤ y) (hy : y < 2 ^ i) (hy₁ : y < 2 ^ 63) : Go.bits .or .i64 x y = x + y :=
 bits_join .i64 63 (by decide) wraps_i64 i x y hx₀ hx hx₁ hy₀ hy hy₁
theorem Ev.const {α : Type} {g : Nat → Option α} {r : α} (h : ∀ k, g k = some r) : Ev g r := ⟨0, fun k _ => h k⟩
theorem Ev.some_bind {α β : Type} {o : Option α} {f : Nat → α → Option β} {a : α} {r : β} (h : o = some a) (k : Ev (fun n => f n a) r) : Ev (fun n => o.bind (f n)) r := by
 subst h; exact k
end Go.Proofs.YtngedmioeodmfaaDoor.Pu
namespace Go.Proofs.YtngedmioeodmfaaDoorW.PrintWords
theorem Ev.eq {α : Type} {g : Nat → Option α} {r q : α} (h : Ev g r) (e : r = q) : Ev g q := e ▸ h
end Go.Proofs.YtngedmioeodmfaaDoorW.PrintWords
