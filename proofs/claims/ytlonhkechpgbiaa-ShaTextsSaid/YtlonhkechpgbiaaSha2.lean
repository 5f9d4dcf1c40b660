/- The walks of begin, table, take, hash. -/
import Derived.Test.YtlonhkechpgbiaaSha1
namespace Go.Proofs.Ytlonhkechpgbiaa.Sh
open Go.RowKit Go.Proofs.Ytlonhkechpgbiaa.Pr Go.Proofs.YtlonhkechpgbiaaW.PrintWords Go.Proofs.YtlonhkechpgbiaaW.PrintLast Go.Proofs.YtlonhkechpgbiaaW.PrintMore
set_option linter.unusedVariables false
set_option linter.unusedSimpArgs false

def H0 : List Int := [1779033703, 3144134277, 1013904242, 2773480762, 1359893119, 2600822924, 528734635, 1541459225]
/-- A digest's block. -/
def Dig (w : World) (g : Nat) (s0 s1 s2 s3 s4 s5 s6 s7 : Int) (b : Bool) (R : Value) (n : Int) : Prop :=
  w.heap[g]? = some (.cells #[.int .u32 s0, .int .u32 s1, .int .u32 s2, .int .u32 s3, .int .u32 s4, .int .u32 s5, .int .u32 s6, .int .u32 s7, .bool b, R, .int .i64 n] 38 (0, 0))

/-- All is as it was but the digest's own block, and what is new. -/
structure Keep (w w' : World) (g : Nat) : Prop where
  k : KeepBut w w' g none
  b : Below g w w'
theorem Keep.refl (w : World) (g : Nat) : Keep w w g := ⟨KeepBut.refl _ _ _, Below.refl _ _⟩
theorem Keep.drewN {w w' : World} {g : Nat} (h : Keep w w' g) (n : Nat) : Keep w (w'.drewN n) g := ⟨keep_drewN h.k n, pw_below_drewN h.b n⟩
theorem Keep.set {w w' : World} {g : Nat} (h : Keep w w' g) (j : Nat) (u : Value) : Keep w (w'.setCell ⟨g, j, none⟩ u) g := ⟨KeepBut.set_ h.k j u, h.b.setCell (Nat.le_refl _) u⟩
theorem Keep.trans {w w1 w2 : World} {g : Nat} (h : Keep w w1 g) (k : Keep w1 w2 g) : Keep w w2 g := ⟨h.k.trans k.k (.inl rfl), h.b.trans k.b⟩
theorem Keep.below {w w1 w2 : World} {g : Nat} (h : Keep w w1 g) (hb : Below w.heap.size w1 w2) (hg : g < w.heap.size) : Keep w w2 g :=
  ⟨⟨Nat.le_trans h.k.1 hb.size, fun i hi hne hr => (hb.block i hi).trans (h.k.2 i hi hne hr)⟩, h.b.trans (hb.mono (Nat.le_of_lt hg))⟩
set_option maxHeartbeats 4000000 in
set_option maxRecDepth 100000 in
theorem begin_no (g : Nat) (s0 s1 s2 s3 s4 s5 s6 s7 : Int) (R : Value) (n : Int) (w : World) (h : Dig w g s0 s1 s2 s3 s4 s5 s6 s7 true R n) :
    Calls Try.prog 28 #[.pointer (some ⟨g, 0, none⟩)] w fun e w' => e = .returned (.tuple #[]) ∧ w = w' := by
  have c8 := (blk_cell h 8).trans rfl
  go_enter Try.func28, Try.ntmps28
  go_wp2
  go_end0
  exact ⟨rfl, rfl⟩
set_option maxHeartbeats 4000000 in
set_option maxRecDepth 100000 in
theorem begin_yes (g : Nat) (s0 s1 s2 s3 s4 s5 s6 s7 : Int) (R : Value) (n : Int) (w : World) (h : Dig w g s0 s1 s2 s3 s4 s5 s6 s7 false R n) :
    Calls Try.prog 28 #[.pointer (some ⟨g, 0, none⟩)] w fun e w' => e = .returned (.tuple #[]) ∧ Dig w' g 1779033703 3144134277 1013904242 2773480762 1359893119 2600822924 528734635 1541459225 true R n ∧ Keep w w' g := by
  have c0 := (blk_cell h 0).trans rfl
  have c1 := (blk_cell h 1).trans rfl
  have c2 := (blk_cell h 2).trans rfl
  have c3 := (blk_cell h 3).trans rfl
  have c4 := (blk_cell h 4).trans rfl
  have c5 := (blk_cell h 5).trans rfl
  have c6 := (blk_cell h 6).trans rfl
  have c7 := (blk_cell h 7).trans rfl
  have c8 := (blk_cell h 8).trans rfl
  have f0 := blk_frozen h 0
  have f1 := blk_frozen h 1
  have f2 := blk_frozen h 2
  have f3 := blk_frozen h 3
  have f4 := blk_frozen h 4
  have f5 := blk_frozen h 5
  have f6 := blk_frozen h 6
  have f7 := blk_frozen h 7
  have f8 := blk_frozen h 8
  have H := Aside0.mk h
  clear h
  go_enter Try.func28, Try.ntmps28
  go_wp2
  go_end0
  refine ⟨rfl, ?_, ?_⟩
  · have k := blk_set (blk_set (blk_set (blk_set (blk_set (blk_set (blk_set (blk_set (blk_set H.out 0 (.int .u32 1779033703)) 1 (.int .u32 3144134277)) 2 (.int .u32 1013904242)) 3 (.int .u32 2773480762)) 4 (.int .u32 1359893119)) 5 (.int .u32 2600822924)) 6 (.int .u32 528734635)) 7 (.int .u32 1541459225)) 8 (.bool true)
    simp only [List.setIfInBounds_toArray, List.set_cons_zero, List.set_cons_succ] at k
    exact k
  repeat apply Keep.set
  exact Keep.refl _ _
def KT : List Int := [1116352408, 1899447441, 3049323471, 3921009573, 961987163, 1508970993, 2453635748, 2870763221, 3624381080, 310598401, 607225278, 1426881987, 1925078388, 2162078206, 2614888103, 3248222580, 3835390401, 4022224774, 264347078, 604807628, 770255983, 1249150122, 1555081692, 1996064986, 2554220882, 2821834349, 2952996808, 3210313671, 3336571891, 3584528711, 113926993, 338241895, 666307205, 773529912, 1294757372, 1396182291, 1695183700, 1986661051, 2177026350, 2456956037, 2730485921, 2820302411, 3259730800, 3345764771, 3516065817, 3600352804, 4094571909, 275423344, 430227734, 506948616, 659060556, 883997877, 958139571, 1322822218, 1537002063, 1747873779, 1955562222, 2024104815, 2227730452, 2361852424, 2428436474, 2756734187, 3204031479, 3329325298]
set_option maxHeartbeats 4000000 in
set_option maxRecDepth 100000 in
theorem table_calls (w : World) : Calls Try.prog 30 #[] w fun e w' => e = .returned (.agg (u32s KT)) ∧ Below w.heap.size w w' := by
  have hi : (Try.prog.info? 51).map (·.size) = some (u32s KT).size := info64 rfl
  go_enter Try.func30, Try.ntmps30
  go_wp2_with (first | (refine wpList_build rfl 51 _ rfl (by kernel_rfl) ?_) | (refine wpList_store_row rfl 51 _ _ rfl w.heap.size (u32s KT) rfl (by kernel_rfl) 51 _ (blk_new _ _) hi rfl (u32s_one KT) ?_))
  exact bodyPost_ret (v := .agg (u32s KT)) (results_cell_row rfl _ _ w.heap.size 51 (u32s KT) (0, 0) _ rfl (setRow_heap _ _ _ _ _ _ (blk_new _ _)) Try.underlying51 rfl hi) rfl ⟨rfl, below_setRow (below_alloc (Below.refl _ _) _) (Nat.le_refl _) _⟩
end Go.Proofs.Ytlonhkechpgbiaa.Sh
