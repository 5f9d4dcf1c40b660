/- The walk of take. -/
import Derived.Test.YtlonhkechpgbiaaSha2
namespace Go.Proofs.Ytlonhkechpgbiaa.Sh
open Go.RowKit Go.Proofs.Ytlonhkechpgbiaa.Pr Go.Proofs.YtlonhkechpgbiaaW.PrintWords Go.Proofs.YtlonhkechpgbiaaW.PrintLast Go.Proofs.YtlonhkechpgbiaaW.PrintMore
open Go.Proofs.Ytlonhkechpgbiaa.QT (Fresh sel)
set_option linter.unusedVariables false
set_option linter.unusedSimpArgs false

def V8 (w : World) (g : Nat) (a0 a1 a2 a3 a4 a5 a6 a7 : Int) : Prop := w.heap[g]? = some (.cells #[.int .u32 a0, .int .u32 a1, .int .u32 a2, .int .u32 a3, .int .u32 a4, .int .u32 a5, .int .u32 a6, .int .u32 a7] 34 (0, 0))
def rT (a4 a5 a6 a7 y x : Int) : Int := (a7 + bits BinOp.xor IntKind.u32 (bits BinOp.xor IntKind.u32 (trn a4 6) (trn a4 11)) (trn a4 25) + bits BinOp.xor IntKind.u32 (bits BinOp.and IntKind.u32 a4 a5) (bits BinOp.and IntKind.u32 (bits BinOp.xor IntKind.u32 IntKind.u32.max a4) a6) + y + x) % 4294967296
def rU (a0 a1 a2 : Int) : Int := (bits BinOp.xor IntKind.u32 (bits BinOp.xor IntKind.u32 (trn a0 2) (trn a0 13)) (trn a0 22) + bits BinOp.xor IntKind.u32 (bits BinOp.xor IntKind.u32 (bits BinOp.and IntKind.u32 a0 a1) (bits BinOp.and IntKind.u32 a0 a2)) (bits BinOp.and IntKind.u32 a1 a2)) % 4294967296
theorem pre_get {α : Type} (l m : List α) (j : Nat) (v : α) (h : l[j]? = some v) : (l ++ m).toArray[j]? = some v := by
  have hj := (List.getElem?_eq_some_iff.1 h).1
  simp only [List.getElem?_toArray]
  rw [List.getElem?_append_left hj]; exact h
/-- The eight words of a round. -/
structure S8 where
  (a b c d e f g h : Int)
def S8.list (s : S8) : List Int := [s.a, s.b, s.c, s.d, s.e, s.f, s.g, s.h]
def rnd (s : S8) (x y : Int) : S8 := ⟨(rT s.e s.f s.g s.h y x + rU s.a s.b s.c) % 4294967296, s.a, s.b, s.c, (s.d + rT s.e s.f s.g s.h y x) % 4294967296, s.e, s.f, s.g⟩
def rounds (M : List Int) (s : S8) : Nat → S8
  | 0 => s
  | k + 1 => rnd (rounds M s k) (M.getD k 0) (KT.getD k 0)
def addK (S V : List Int) : Nat → List Int
  | 0 => S
  | k + 1 => (addK S V k).set k (((addK S V k).getD k 0 + V.getD k 0) % 4294967296)
theorem addK_length (S V : List Int) : ∀ k, (addK S V k).length = S.length
  | 0 => rfl
  | k + 1 => by simp [addK, addK_length S V k]
def addS (s v : S8) : S8 := ⟨(s.a + v.a) % 4294967296, (s.b + v.b) % 4294967296, (s.c + v.c) % 4294967296, (s.d + v.d) % 4294967296, (s.e + v.e) % 4294967296, (s.f + v.f) % 4294967296, (s.g + v.g) % 4294967296, (s.h + v.h) % 4294967296⟩
theorem addK_all (s v : S8) : addK s.list v.list 8 = (addS s v).list := rfl
/-- What a block makes of the words. -/
def blockS (s : S8) (l : List Int) : S8 := addS s (rounds (spreadL l) s 64)
def DigL (w : World) (g : Nat) (L : List Int) (b : Bool) (R : Value) (n : Int) : Prop := w.heap[g]? = some (.cells (u32s L ++ #[.bool b, R, .int .i64 n]) 38 (0, 0))
theorem digL_cell {w : World} {g : Nat} {L : List Int} {b : Bool} {R : Value} {n : Int} (h : DigL w g L b R n) (i : Nat) (hi : i < L.length) : w.cell? ⟨g, i, none⟩ = some (.int .u32 (L.getD i 0)) := by
  rw [blk_cell h i, Array.getElem?_append_left (by rw [u32s_size]; exact hi)]; exact u32s_get L i hi
theorem digL_set {w : World} {g : Nat} {L : List Int} {b : Bool} {R : Value} {n : Int} (h : DigL w g L b R n) (i : Nat) (x : Int) (hi : i < L.length) : DigL (w.setCell ⟨g, i, none⟩ (.int .u32 x)) g (L.set i x) b R n := by
  have := blk_set h i (.int .u32 x)
  rw [Array.setIfInBounds_append_left (by rw [u32s_size]; exact hi), u32s_set] at this
  exact this
def Z64 : Array Value := u32s (List.replicate 64 0)
def Z8 : Array Value := u32s (List.replicate 8 0)
def begun (b : Bool) (s : S8) : S8 := if b = true then s else ⟨1779033703, 3144134277, 1013904242, 2773480762, 1359893119, 2600822924, 528734635, 1541459225⟩
theorem begin_calls (g : Nat) (s : S8) (b : Bool) (R : Value) (n : Int) (w : World) (h : DigL w g s.list b R n) :
    Calls Try.prog 28 #[.pointer (some ⟨g, 0, none⟩)] w fun e w' => e = .returned (.tuple #[]) ∧ DigL w' g (begun b s).list true R n ∧ Keep w w' g := by
  obtain ⟨s0, s1, s2, s3, s4, s5, s6, s7⟩ := s
  cases b with
  | true =>
    refine (begin_no g s0 s1 s2 s3 s4 s5 s6 s7 R n w h).mono ?_
    rintro e w' ⟨rfl, rfl⟩
    exact ⟨rfl, h, Keep.refl _ _⟩
  | false =>
    refine (begin_yes g s0 s1 s2 s3 s4 s5 s6 s7 R n w h).mono ?_
    rintro e w' ⟨rfl, hd, hk⟩
    exact ⟨rfl, hd, hk⟩
theorem add_block (a : Addr) (j : Nat) : (a.add j).block = a.block := by unfold Addr.add; split <;> rfl
theorem cell_keep {w w' : World} {g : Nat} (h : Keep w w' g) {a : Addr} {v : Value} (hne : a.block ≠ g) (hc : w.cell? a = some v) : w'.cell? a = w.cell? a := by
  unfold World.cell?
  rw [h.k.2 a.block (World.block_lt_of_cell? w _ hc) hne (by simp)]
def take1.T1 : Bool × List (List Nat × List Nat) := (true, [([], []), ([0], [0]), ([1], []), ([], []), ([3], [3]), ([4], [4]), ([5], [5]), ([], []), ([], []), ([], []), ([7, 1, 2, 0, 1, 7, 8, 9], [1, 7]), ([8, 2, 10, 0, 1, 2, 7, 8, 9, 10], [2, 8]), ([9, 6, 11, 0, 1, 2, 3, 4, 5, 6, 7, 8, 9, 10, 11], [6, 9])])
def take1.B1 : List Nat := [0, 1, 3, 0, 8, 24, 56, 0, 0, 0, 903, 1927, 4095]
theorem take1.tab1 : rtab .any (opsOf Try.f22 1) = take1.T1 := by kernel_rfl
theorem take1.bits1 : waitsOk take1.T1.2 take1.B1 = true := by kernel_rfl

set_option maxHeartbeats 4000000 in
set_option maxRecDepth 100000 in
theorem take_calls (g : Nat) (s : S8) (b : Bool) (RR : Value) (n : Int) (w0 : World) (h : DigL w0 g s.list b RR n)
    (ad : Addr) (c : Nat) (l : List Int) (hg : ad.block ≠ g) (hl : ∀ i, 0 ≤ l.getD i 0 ∧ l.getD i 0 ≤ 255) (hc : ∀ j, j < 64 → w0.cell? (ad.add j) = some (.int .u8 (l.getD j 0))) :
    Calls Try.prog 22 #[.pointer (some ⟨g, 0, none⟩), .slice (some ad) 64 c] w0 fun e w' => e = .returned (.tuple #[]) ∧ DigL w' g (blockS (begun b s) l).list true RR n ∧ Keep w0 w' g := by
  have H := Aside0.mk h
  have HC := Aside0.mk hc
  have HL := Aside0.mk hl
  have HGN := Aside0.mk hg
  clear hc hl h hg
  obtain ⟨bs, hbs⟩ : ∃ bs, bs = begun b s := ⟨_, rfl⟩
  have HBS := Aside0.mk hbs
  rw [← hbs]
  clear hbs
  go_enter Try.func22, Try.ntmps22
  go_wp2_with fail
  refine (begin_calls g s b RR n w0 H.out).mono ?_
  rintro e w ⟨rfl, hD, hK0⟩
  rw [← HBS.out] at hD
  have HC : Aside0 (∀ j, j < 64 → w.cell? (ad.add j) = some (.int .u8 (l.getD j 0))) := ⟨fun j hj => (cell_keep hK0 (by rw [add_block]; exact HGN.out) (HC.out j hj)).trans (HC.out j hj)⟩
  obtain ⟨s0, s1, s2, s3, s4, s5, s6, s7⟩ := bs
  have H : Aside0 (Dig w g s0 s1 s2 s3 s4 s5 s6 s7 true RR n) := ⟨hD⟩
  have HK0 := Aside0.mk hK0
  clear hD hK0 HGN HBS
  go_upto_region 1 with (fail)
  refine start_ (n := 13) (S := fun w' => True) (ds := []) #[false, false, false, false, false, false, false, false, false, false, false, false, false] (by kernel_rfl) rfl rfl trivial (fun hHeld => ?_)
  refine with_tabW take1.tab1 take1.bits1 (fun HT_ HW_ => ?_)
  have R : Aside0 (Fresh w.heap.size w w.drew [(false, 0, 51, sel false (u32s (spreadL l)) Z64), (false, 0, 51, sel false (u32s KT) Z64), (false, 0, 34, sel false (u32s [s0, s1, s2, s3, s4, s5, s6, s7]) Z8)]) := ⟨Fresh.begin_ (below_drew (Below.refl _ _)) rfl⟩
  refine inv_at [0, 1, 2, 3, 4, 5, 6, 7, 8, 9, 10, 11, 12] (fun a0_ b a w' => ∃ (g4 : Nat) (g5 : Nat) (g6 : Nat) (m7_ : Value) (m8_ : Value) (m9_ : Value), a = putSel a0_ b [(0, 15, .slice (some ad) 64 c), (1, 16, .agg (u32s (spreadL l))), (2, 17, .agg (u32s KT)), (3, 18, .pointer (some ⟨g, 0, none⟩)), (4, 19, .pointer (some ⟨g, 0, none⟩)), (5, 20, .pointer (some ⟨g, 0, none⟩)), (6, 21, .agg #[.int .u32 s0, .int .u32 s1, .int .u32 s2, .int .u32 s3, .int .u32 s4, .int .u32 s5, .int .u32 s6, .int .u32 s7]), (7, 4, m7_), (8, 5, m8_), (9, 6, m9_)] ∧ (Fresh w.heap.size w w' [(b 7, g4, 51, sel (b 10) (u32s (spreadL l)) Z64), (b 8, g5, 51, sel (b 11) (u32s KT) Z64), (b 9, g6, 34, sel (b 12) (u32s [s0, s1, s2, s3, s4, s5, s6, s7]) Z8)]) ∧ (b 7 = true → b 7 = true) ∧ (b 8 = true → b 8 = true) ∧ (b 9 = true → b 9 = true) ∧ (b 10 = true → b 10 = true) ∧ (b 11 = true → b 11 = true) ∧ (b 12 = true → b 12 = true) ∧ (b 7 = true → (m7_ : Value) = .pointer (some ⟨g4, 0, none⟩)) ∧ (b 8 = true → (m8_ : Value) = .pointer (some ⟨g5, 0, none⟩)) ∧ (b 9 = true → (m9_ : Value) = .pointer (some ⟨g6, 0, none⟩))) HT_.out HW_.out (by kernel_rfl) (by kernel_rfl) ?_ ?_ ?_
  · exact ⟨0, 0, 0, .bool false, .bool false, .bool false, by simp only [putSel, Bool.false_eq_true, if_false], R.out, fun h_ => absurd h_ (by decide), fun h_ => absurd h_ (by decide), fun h_ => absurd h_ (by decide), fun h_ => absurd h_ (by decide), fun h_ => absurd h_ (by decide), fun h_ => absurd h_ (by decide), fun h_ => absurd h_ (by decide), fun h_ => absurd h_ (by decide), fun h_ => absurd h_ (by decide)⟩
  · skip
    clear R
    refine steps_cons ?_ ?_
    · rintro b a w' ⟨g4, g5, g6, m7_, m8_, m9_, ha, Q_R, Q_B7, Q_B8, Q_B9, Q_B10, Q_B11, Q_B12, Q_X7_, Q_X8_, Q_X9_⟩ hb_ hon hoff
      refine ⟨_, rfl, fun K hK => ?_⟩
      have e1 : a.tmps[1]? = some (.slice (some ad) 64 c) := by rw [ha]; exact (putSel_off rfl).trans rfl
      replace ha := Aside0.mk ha
      have R := Aside0.mk Q_R
      refine value_ (w1 := w') (v := .slice (some ad) 64 c) (by rfl) rfl ?_ ?_
      · go_simp
        (try simp only [i64_w])
        try rfl
      refine hK.out _ _ ⟨g4, g5, g6, m7_, m8_, m9_, (by rw [ha.out]; exact putSel_upk 0 hb_ rfl rfl rfl), Q_R, Q_B7, Q_B8, Q_B9, fun h0_ => absurd ((hoff 10 (by kernel_rfl)).symm.trans h0_) (by decide), fun h0_ => absurd ((hoff 11 (by kernel_rfl)).symm.trans h0_) (by decide), fun h0_ => absurd ((hoff 12 (by kernel_rfl)).symm.trans h0_) (by decide), Q_X7_, Q_X8_, Q_X9_⟩
    refine steps_cons ?_ ?_
    · rintro b a w' ⟨g4, g5, g6, m7_, m8_, m9_, ha, Q_R, Q_B7, Q_B8, Q_B9, Q_B10, Q_B11, Q_B12, Q_X7_, Q_X8_, Q_X9_⟩ hb_ hon hoff
      refine ⟨_, rfl, fun K hK => ?_⟩
      have e15 : a.tmps[15]? = some (.slice (some ad) 64 c) := by rw [ha]; exact putSel_on (e := (0, 15, .slice (some ad) 64 c)) 0 rfl rfl (hon 0 (by kernel_rfl)) rfl
      replace ha := Aside0.mk ha
      have R := Aside0.mk Q_R
      refine goes_ (N := some 16) Try.func29 (by kernel_rfl) rfl #[.slice (some ad) 64 c] (by rfl) rfl rfl (by first | (simp only [List.map_toArray, List.map_cons, List.map_nil, Act.eval, Array.getD_eq_getD_getElem?, Option.getD_some, e15]; done) | (simp only [List.map_toArray, List.map_cons, List.map_nil, Act.eval, Array.getD_eq_getD_getElem?, Option.getD_some, e15]; rfl)) ?_
      refine (spread_calls ad c l w' HL.out (fun j hj => (R.out.1.cell (World.block_lt_of_cell? w _ (HC.out j hj))).trans (HC.out j hj))).mono ?_
      rintro e w1 ⟨rfl, hb⟩
      refine ⟨_, rfl, ?_⟩
      refine hK.out _ _ ⟨g4, g5, g6, m7_, m8_, m9_, (by rw [ha.out]; exact putSel_upk 1 hb_ rfl rfl rfl), R.out.below (Nat.le_refl _) hb, Q_B7, Q_B8, Q_B9, fun h0_ => absurd ((hoff 10 (by kernel_rfl)).symm.trans h0_) (by decide), fun h0_ => absurd ((hoff 11 (by kernel_rfl)).symm.trans h0_) (by decide), fun h0_ => absurd ((hoff 12 (by kernel_rfl)).symm.trans h0_) (by decide), Q_X7_, Q_X8_, Q_X9_⟩
    refine steps_cons ?_ ?_
    · rintro b a w' ⟨g4, g5, g6, m7_, m8_, m9_, ha, Q_R, Q_B7, Q_B8, Q_B9, Q_B10, Q_B11, Q_B12, Q_X7_, Q_X8_, Q_X9_⟩ hb_ hon hoff
      refine ⟨_, rfl, fun K hK => ?_⟩
      replace ha := Aside0.mk ha
      have R := Aside0.mk Q_R
      refine goes_ (N := some 17) Try.func30 (by kernel_rfl) rfl #[] (by rfl) rfl rfl (by first | (simp only [List.map_toArray, List.map_cons, List.map_nil, Act.eval, Array.getD_eq_getD_getElem?, Option.getD_some]; done) | (simp only [List.map_toArray, List.map_cons, List.map_nil, Act.eval, Array.getD_eq_getD_getElem?, Option.getD_some]; rfl)) ?_
      refine (table_calls w').mono ?_
      rintro e w1 ⟨rfl, hb⟩
      refine ⟨_, rfl, ?_⟩
      refine hK.out _ _ ⟨g4, g5, g6, m7_, m8_, m9_, (by rw [ha.out]; exact putSel_upk 2 hb_ rfl rfl rfl), R.out.below (Nat.le_refl _) hb, Q_B7, Q_B8, Q_B9, fun h0_ => absurd ((hoff 10 (by kernel_rfl)).symm.trans h0_) (by decide), fun h0_ => absurd ((hoff 11 (by kernel_rfl)).symm.trans h0_) (by decide), fun h0_ => absurd ((hoff 12 (by kernel_rfl)).symm.trans h0_) (by decide), Q_X7_, Q_X8_, Q_X9_⟩
    refine steps_cons ?_ ?_
    · rintro b a w' ⟨g4, g5, g6, m7_, m8_, m9_, ha, Q_R, Q_B7, Q_B8, Q_B9, Q_B10, Q_B11, Q_B12, Q_X7_, Q_X8_, Q_X9_⟩ hb_ hon hoff
      refine ⟨_, rfl, fun K hK => ?_⟩
      have e0 : a.tmps[0]? = some (.pointer (some ⟨g, 0, none⟩)) := by rw [ha]; exact (putSel_off rfl).trans rfl
      replace ha := Aside0.mk ha
      have R := Aside0.mk Q_R
      refine value_ (w1 := w') (v := .pointer (some ⟨g, 0, none⟩)) (by rfl) rfl ?_ ?_
      · go_simp
        (try simp only [i64_w])
        try rfl
      refine hK.out _ _ ⟨g4, g5, g6, m7_, m8_, m9_, (by rw [ha.out]; exact putSel_upk 3 hb_ rfl rfl rfl), Q_R, Q_B7, Q_B8, Q_B9, Q_B10, Q_B11, fun h0_ => absurd ((hoff 12 (by kernel_rfl)).symm.trans h0_) (by decide), Q_X7_, Q_X8_, Q_X9_⟩
    refine steps_cons ?_ ?_
    · rintro b a w' ⟨g4, g5, g6, m7_, m8_, m9_, ha, Q_R, Q_B7, Q_B8, Q_B9, Q_B10, Q_B11, Q_B12, Q_X7_, Q_X8_, Q_X9_⟩ hb_ hon hoff
      refine ⟨_, rfl, fun K hK => ?_⟩
      have e18 : a.tmps[18]? = some (.pointer (some ⟨g, 0, none⟩)) := by rw [ha]; exact putSel_on (e := (3, 18, .pointer (some ⟨g, 0, none⟩))) 3 rfl rfl (hon 3 (by kernel_rfl)) rfl
      replace ha := Aside0.mk ha
      have R := Aside0.mk Q_R
      refine value_ (w1 := w') (v := .pointer (some ⟨g, 0, none⟩)) (by rfl) rfl ?_ ?_
      · go_simp
        (try simp only [i64_w])
        try rfl
      refine hK.out _ _ ⟨g4, g5, g6, m7_, m8_, m9_, (by rw [ha.out]; exact putSel_upk 4 hb_ rfl rfl rfl), Q_R, Q_B7, Q_B8, Q_B9, Q_B10, Q_B11, fun h0_ => absurd ((hoff 12 (by kernel_rfl)).symm.trans h0_) (by decide), Q_X7_, Q_X8_, Q_X9_⟩
    refine steps_cons ?_ ?_
    · rintro b a w' ⟨g4, g5, g6, m7_, m8_, m9_, ha, Q_R, Q_B7, Q_B8, Q_B9, Q_B10, Q_B11, Q_B12, Q_X7_, Q_X8_, Q_X9_⟩ hb_ hon hoff
      refine ⟨_, rfl, fun K hK => ?_⟩
      have e19 : a.tmps[19]? = some (.pointer (some ⟨g, 0, none⟩)) := by rw [ha]; exact putSel_on (e := (4, 19, .pointer (some ⟨g, 0, none⟩))) 4 rfl rfl (hon 4 (by kernel_rfl)) rfl
      replace ha := Aside0.mk ha
      have R := Aside0.mk Q_R
      refine value_ (w1 := w') (v := .pointer (some ⟨g, 0, none⟩)) (by rfl) rfl ?_ ?_
      · go_simp
        (try simp only [i64_w])
        try rfl
      refine hK.out _ _ ⟨g4, g5, g6, m7_, m8_, m9_, (by rw [ha.out]; exact putSel_upk 5 hb_ rfl rfl rfl), Q_R, Q_B7, Q_B8, Q_B9, Q_B10, Q_B11, fun h0_ => absurd ((hoff 12 (by kernel_rfl)).symm.trans h0_) (by decide), Q_X7_, Q_X8_, Q_X9_⟩
    refine steps_cons ?_ ?_
    · rintro b a w' ⟨g4, g5, g6, m7_, m8_, m9_, ha, Q_R, Q_B7, Q_B8, Q_B9, Q_B10, Q_B11, Q_B12, Q_X7_, Q_X8_, Q_X9_⟩ hb_ hon hoff
      refine ⟨_, rfl, fun K hK => ?_⟩
      have e20 : a.tmps[20]? = some (.pointer (some ⟨g, 0, none⟩)) := by rw [ha]; exact putSel_on (e := (5, 20, .pointer (some ⟨g, 0, none⟩))) 5 rfl rfl (hon 5 (by kernel_rfl)) rfl
      replace ha := Aside0.mk ha
      have R := Aside0.mk Q_R
      have hD : Dig w' g s0 s1 s2 s3 s4 s5 s6 s7 true RR n := blk_below H.out R.out.1
      have c0 := (blk_cell hD 0).trans rfl
      have c1 := (blk_cell hD 1).trans rfl
      have c2 := (blk_cell hD 2).trans rfl
      have c3 := (blk_cell hD 3).trans rfl
      have c4 := (blk_cell hD 4).trans rfl
      have c5 := (blk_cell hD 5).trans rfl
      have c6 := (blk_cell hD 6).trans rfl
      have c7 := (blk_cell hD 7).trans rfl
      clear hD
      refine value_ (w1 := w') (v := .agg #[.int .u32 s0, .int .u32 s1, .int .u32 s2, .int .u32 s3, .int .u32 s4, .int .u32 s5, .int .u32 s6, .int .u32 s7]) (by rfl) rfl ?_ ?_
      · go_simp
        (try simp only [i64_w])
        try rfl
      refine hK.out _ _ ⟨g4, g5, g6, m7_, m8_, m9_, (by rw [ha.out]; exact putSel_upk 6 hb_ rfl rfl rfl), Q_R, Q_B7, Q_B8, Q_B9, Q_B10, Q_B11, fun h0_ => absurd ((hoff 12 (by kernel_rfl)).symm.trans h0_) (by decide), Q_X7_, Q_X8_, Q_X9_⟩
    refine steps_cons ?_ ?_
    · rintro b a w' ⟨g4, g5, g6, m7_, m8_, m9_, ha, Q_R, Q_B7, Q_B8, Q_B9, Q_B10, Q_B11, Q_B12, Q_X7_, Q_X8_, Q_X9_⟩ hb_ hon hoff
      refine ⟨_, rfl, fun K hK => ?_⟩
      replace ha := Aside0.mk ha
      have R := Aside0.mk Q_R
      refine value_ (w1 := w'.alloc (.cells Z64 51)) (v := .pointer (some ⟨w'.heap.size, 0, none⟩)) (by rfl) rfl (by go_simp; rfl) ?_
      refine hK.out _ _ ⟨w'.heap.size, g5, g6, (.pointer (some ⟨w'.heap.size, 0, none⟩)), m8_, m9_, (by rw [ha.out]; exact putSel_upk 7 hb_ rfl rfl rfl), R.out.alloc (Nat.le_refl _) 0 rfl Z64 (by rw [show b 10 = false from hoff 10 (by kernel_rfl)]; rfl), fun _ => rfl, Q_B8, Q_B9, fun h0_ => absurd ((hoff 10 (by kernel_rfl)).symm.trans h0_) (by decide), fun h0_ => absurd ((hoff 11 (by kernel_rfl)).symm.trans h0_) (by decide), fun h0_ => absurd ((hoff 12 (by kernel_rfl)).symm.trans h0_) (by decide), fun _ => rfl, Q_X8_, Q_X9_⟩
    refine steps_cons ?_ ?_
    · rintro b a w' ⟨g4, g5, g6, m7_, m8_, m9_, ha, Q_R, Q_B7, Q_B8, Q_B9, Q_B10, Q_B11, Q_B12, Q_X7_, Q_X8_, Q_X9_⟩ hb_ hon hoff
      refine ⟨_, rfl, fun K hK => ?_⟩
      replace ha := Aside0.mk ha
      have R := Aside0.mk Q_R
      refine value_ (w1 := w'.alloc (.cells Z64 51)) (v := .pointer (some ⟨w'.heap.size, 0, none⟩)) (by rfl) rfl (by go_simp; rfl) ?_
      refine hK.out _ _ ⟨g4, w'.heap.size, g6, m7_, (.pointer (some ⟨w'.heap.size, 0, none⟩)), m9_, (by rw [ha.out]; exact putSel_upk 8 hb_ rfl rfl rfl), R.out.alloc (Nat.le_refl _) 1 rfl Z64 (by rw [show b 11 = false from hoff 11 (by kernel_rfl)]; rfl), Q_B7, fun _ => rfl, Q_B9, fun h0_ => absurd ((hoff 10 (by kernel_rfl)).symm.trans h0_) (by decide), fun h0_ => absurd ((hoff 11 (by kernel_rfl)).symm.trans h0_) (by decide), fun h0_ => absurd ((hoff 12 (by kernel_rfl)).symm.trans h0_) (by decide), Q_X7_, fun _ => rfl, Q_X9_⟩
    refine steps_cons ?_ ?_
    · rintro b a w' ⟨g4, g5, g6, m7_, m8_, m9_, ha, Q_R, Q_B7, Q_B8, Q_B9, Q_B10, Q_B11, Q_B12, Q_X7_, Q_X8_, Q_X9_⟩ hb_ hon hoff
      refine ⟨_, rfl, fun K hK => ?_⟩
      replace ha := Aside0.mk ha
      have R := Aside0.mk Q_R
      refine value_ (w1 := w'.alloc (.cells Z8 34)) (v := .pointer (some ⟨w'.heap.size, 0, none⟩)) (by rfl) rfl (by go_simp; rfl) ?_
      refine hK.out _ _ ⟨g4, g5, w'.heap.size, m7_, m8_, (.pointer (some ⟨w'.heap.size, 0, none⟩)), (by rw [ha.out]; exact putSel_upk 9 hb_ rfl rfl rfl), R.out.alloc (Nat.le_refl _) 2 rfl Z8 (by rw [show b 12 = false from hoff 12 (by kernel_rfl)]; rfl), Q_B7, Q_B8, fun _ => rfl, fun h0_ => absurd ((hoff 10 (by kernel_rfl)).symm.trans h0_) (by decide), fun h0_ => absurd ((hoff 11 (by kernel_rfl)).symm.trans h0_) (by decide), fun h0_ => absurd ((hoff 12 (by kernel_rfl)).symm.trans h0_) (by decide), Q_X7_, Q_X8_, fun _ => rfl⟩
    refine steps_cons ?_ ?_
    · rintro b a w' ⟨g4, g5, g6, m7_, m8_, m9_, ha, Q_R, Q_B7, Q_B8, Q_B9, Q_B10, Q_B11, Q_B12, Q_X7_, Q_X8_, Q_X9_⟩ hb_ hon hoff
      refine ⟨_, rfl, fun K hK => ?_⟩
      have e4 : a.tmps[4]? = some (m7_) := by rw [ha]; exact putSel_on (e := (7, 4, m7_)) 7 rfl rfl (hon 7 (by kernel_rfl)) rfl
      rw [Q_X7_ (hon 7 (by kernel_rfl))] at e4
      have e16 : a.tmps[16]? = some (.agg (u32s (spreadL l))) := by rw [ha]; exact putSel_on (e := (1, 16, .agg (u32s (spreadL l)))) 1 rfl rfl (hon 1 (by kernel_rfl)) rfl
      replace ha := Aside0.mk ha
      have R := Aside0.mk Q_R
      have B7 := Aside0.mk (Q_B7 (hon 7 (by kernel_rfl)))
      have B8 := Aside0.mk (Q_B8 (hon 8 (by kernel_rfl)))
      have B9 := Aside0.mk (Q_B9 (hon 9 (by kernel_rfl)))
      have hg := (R.out.get 0 rfl (hon 7 (by kernel_rfl))).2
      rw [show b 10 = false from hb_] at hg
      refine QT.storeRow_ (by rfl) rfl 51 _ _ rfl g4 (u32s (spreadL l)) (eval_of e4) (eval_of e16) _ _ hg (info64 (W2_length _ (W1_length l 16) 48)) (by rw [u32s_size, spreadL, W2_length _ (W1_length l 16) 48]; rfl) (u32s_one _) ?_
      refine hK.out _ _ ⟨g4, g5, g6, m7_, m8_, m9_, (by rw [ha.out]; exact putSel_none (v := undef) rfl), R.out.store 0 rfl (hon 7 (by kernel_rfl)) _, Q_B7, Q_B8, Q_B9, fun _ => rfl, fun h0_ => absurd ((hoff 11 (by kernel_rfl)).symm.trans h0_) (by decide), fun h0_ => absurd ((hoff 12 (by kernel_rfl)).symm.trans h0_) (by decide), Q_X7_, Q_X8_, Q_X9_⟩
    refine steps_cons ?_ ?_
    · rintro b a w' ⟨g4, g5, g6, m7_, m8_, m9_, ha, Q_R, Q_B7, Q_B8, Q_B9, Q_B10, Q_B11, Q_B12, Q_X7_, Q_X8_, Q_X9_⟩ hb_ hon hoff
      refine ⟨_, rfl, fun K hK => ?_⟩
      have e5 : a.tmps[5]? = some (m8_) := by rw [ha]; exact putSel_on (e := (8, 5, m8_)) 8 rfl rfl (hon 8 (by kernel_rfl)) rfl
      rw [Q_X8_ (hon 8 (by kernel_rfl))] at e5
      have e17 : a.tmps[17]? = some (.agg (u32s KT)) := by rw [ha]; exact putSel_on (e := (2, 17, .agg (u32s KT))) 2 rfl rfl (hon 2 (by kernel_rfl)) rfl
      replace ha := Aside0.mk ha
      have R := Aside0.mk Q_R
      have B7 := Aside0.mk (Q_B7 (hon 7 (by kernel_rfl)))
      have B8 := Aside0.mk (Q_B8 (hon 8 (by kernel_rfl)))
      have B9 := Aside0.mk (Q_B9 (hon 9 (by kernel_rfl)))
      have B10 := Aside0.mk (Q_B10 (hon 10 (by kernel_rfl)))
      have hg := (R.out.get 1 rfl (hon 8 (by kernel_rfl))).2
      rw [show b 11 = false from hb_] at hg
      refine QT.storeRow_ (by rfl) rfl 51 _ _ rfl g5 (u32s KT) (eval_of e5) (eval_of e17) _ _ hg (info64 rfl) (by rfl) (u32s_one _) ?_
      refine hK.out _ _ ⟨g4, g5, g6, m7_, m8_, m9_, (by rw [ha.out]; exact putSel_none (v := undef) rfl), R.out.store 1 rfl (hon 8 (by kernel_rfl)) _, Q_B7, Q_B8, Q_B9, Q_B10, fun _ => rfl, fun h0_ => absurd ((hoff 12 (by kernel_rfl)).symm.trans h0_) (by decide), Q_X7_, Q_X8_, Q_X9_⟩
    refine steps_cons ?_ ?_
    · rintro b a w' ⟨g4, g5, g6, m7_, m8_, m9_, ha, Q_R, Q_B7, Q_B8, Q_B9, Q_B10, Q_B11, Q_B12, Q_X7_, Q_X8_, Q_X9_⟩ hb_ hon hoff
      refine ⟨_, rfl, fun K hK => ?_⟩
      have e6 : a.tmps[6]? = some (m9_) := by rw [ha]; exact putSel_on (e := (9, 6, m9_)) 9 rfl rfl (hon 9 (by kernel_rfl)) rfl
      rw [Q_X9_ (hon 9 (by kernel_rfl))] at e6
      have e21 : a.tmps[21]? = some (.agg #[.int .u32 s0, .int .u32 s1, .int .u32 s2, .int .u32 s3, .int .u32 s4, .int .u32 s5, .int .u32 s6, .int .u32 s7]) := by rw [ha]; exact putSel_on (e := (6, 21, .agg #[.int .u32 s0, .int .u32 s1, .int .u32 s2, .int .u32 s3, .int .u32 s4, .int .u32 s5, .int .u32 s6, .int .u32 s7])) 6 rfl rfl (hon 6 (by kernel_rfl)) rfl
      replace ha := Aside0.mk ha
      have R := Aside0.mk Q_R
      have B7 := Aside0.mk (Q_B7 (hon 7 (by kernel_rfl)))
      have B8 := Aside0.mk (Q_B8 (hon 8 (by kernel_rfl)))
      have B9 := Aside0.mk (Q_B9 (hon 9 (by kernel_rfl)))
      have B10 := Aside0.mk (Q_B10 (hon 10 (by kernel_rfl)))
      have B11 := Aside0.mk (Q_B11 (hon 11 (by kernel_rfl)))
      have hg := (R.out.get 2 rfl (hon 9 (by kernel_rfl))).2
      rw [show b 12 = false from hb_] at hg
      refine QT.storeRow_ (by rfl) rfl 34 _ _ rfl g6 (u32s [s0, s1, s2, s3, s4, s5, s6, s7]) (eval_of e6) (eval_of e21) _ _ hg (info8 rfl) (by rfl) (u32s_one _) ?_
      refine hK.out _ _ ⟨g4, g5, g6, m7_, m8_, m9_, (by rw [ha.out]; exact putSel_none (v := undef) rfl), R.out.store 2 rfl (hon 9 (by kernel_rfl)) _, Q_B7, Q_B8, Q_B9, Q_B10, Q_B11, fun _ => rfl, Q_X7_, Q_X8_, Q_X9_⟩
    exact steps_nil
  · rintro b a w' hall ⟨g4, g5, g6, m7_, m8_, m9_, ha, Q_R, Q_B7, Q_B8, Q_B9, Q_B10, Q_B11, Q_B12, Q_X7_, Q_X8_, Q_X9_⟩
    clear R
    have hb0_ := hall 0 (by kernel_rfl)
    have hb1_ := hall 1 (by kernel_rfl)
    have hb2_ := hall 2 (by kernel_rfl)
    have hb3_ := hall 3 (by kernel_rfl)
    have hb4_ := hall 4 (by kernel_rfl)
    have hb5_ := hall 5 (by kernel_rfl)
    have hb6_ := hall 6 (by kernel_rfl)
    have hb7_ := hall 7 (by kernel_rfl)
    have hb8_ := hall 8 (by kernel_rfl)
    have hb9_ := hall 9 (by kernel_rfl)
    have hb10_ := hall 10 (by kernel_rfl)
    have hb11_ := hall 11 (by kernel_rfl)
    have hb12_ := hall 12 (by kernel_rfl)
    subst ha
    obtain rfl := Q_X7_ hb7_
    obtain rfl := Q_X8_ hb8_
    obtain rfl := Q_X9_ hb9_
    simp only [putSel, hb0_, hb1_, hb2_, hb3_, hb4_, hb5_, hb6_, hb7_, hb8_, hb9_, hb10_, hb11_, hb12_, if_true, Act.put, List.setIfInBounds_toArray, List.set_cons_zero, List.set_cons_succ]
    have R := Aside0.mk Q_R
    clear Q_R
    have B7 := Aside0.mk (Q_B7 hb7_)
    clear Q_B7
    have B8 := Aside0.mk (Q_B8 hb8_)
    clear Q_B8
    have B9 := Aside0.mk (Q_B9 hb9_)
    clear Q_B9
    have B10 := Aside0.mk (Q_B10 hb10_)
    clear Q_B10
    have B11 := Aside0.mk (Q_B11 hb11_)
    clear Q_B11
    have B12 := Aside0.mk (Q_B12 hb12_)
    clear Q_B12
    clear hall hb0_ hb1_ hb2_ hb3_ hb4_ hb5_ hb6_ hb7_ hb8_ hb9_ hb10_ hb11_ hb12_
    have hR := R.out
    rw [show b 7 = true from B7.out, show b 8 = true from B8.out, show b 9 = true from B9.out, show b 10 = true from B10.out, show b 11 = true from B11.out, show b 12 = true from B12.out] at hR
    clear B7 B8 B9 B10 B11 B12 R
    have R := Aside0.mk hR
    clear hR
    go_wp2
    have hM64 : (spreadL l).length = 64 := W2_length _ (W1_length l 16) 48
    obtain ⟨M, hM⟩ : ∃ M, M = spreadL l := ⟨_, rfl⟩
    rw [← hM] at hM64
    have HM := Aside0.mk hM
    have HM64 := Aside0.mk hM64
    have hA4 : Arr w' g4 51 M := by rw [hM]; exact (R.out.get 0 rfl rfl).2
    have hA5 : Arr w' g5 51 KT := (R.out.get 1 rfl rfl).2
    have hA6 : V8 w' g6 s0 s1 s2 s3 s4 s5 s6 s7 := (R.out.get 2 rfl rfl).2
    have hn45 : g4 ≠ g5 := R.out.ne 0 1 rfl rfl rfl rfl (by decide)
    have hn46 : g4 ≠ g6 := R.out.ne 0 2 rfl rfl rfl rfl (by decide)
    have hn56 : g5 ≠ g6 := R.out.ne 1 2 rfl rfl rfl rfl (by decide)
    have hge4 : w.heap.size ≤ g4 := (R.out.get 0 rfl rfl).1
    have hge5 : w.heap.size ≤ g5 := (R.out.get 1 rfl rfl).1
    have hge6 : w.heap.size ≤ g6 := (R.out.get 2 rfl rfl).1
    have hB : Below w.heap.size w w' := R.out.1
    have HA4 := Aside0.mk hA4
    have HA5 := Aside0.mk hA5
    have HA6 := Aside0.mk hA6
    have HB := Aside0.mk hB
    clear hA4 hA5 hA6 hB R hM hM64
    go_loopg [22] 64 (fun gk v22 wr => ∃ (k : Nat) (a0 a1 a2 a3 a4 a5 a6 a7 : Int), v22 = .int .i64 k ∧ Aside0 (k ≤ 64) ∧ Aside0 (64 - k ≤ gk) ∧ Aside0 (rounds M ⟨s0, s1, s2, s3, s4, s5, s6, s7⟩ k = ⟨a0, a1, a2, a3, a4, a5, a6, a7⟩) ∧ Aside0 (Arr wr g4 51 M) ∧ Aside0 (Arr wr g5 51 KT) ∧ Aside0 (V8 wr g6 a0 a1 a2 a3 a4 a5 a6 a7) ∧ Aside0 (Below w.heap.size w wr))
    case atStart => exact ⟨0, s0, s1, s2, s3, s4, s5, s6, s7, rfl, ⟨by omega⟩, ⟨by omega⟩, ⟨rfl⟩, HA4, HA5, HA6, HB⟩
    case round =>
      clear HA4 HA5 HA6 HB
      obtain ⟨k, a0, a1, a2, a3, a4, a5, a6, a7, rfl, Hk, HG, HRR, HA4, HA5, HA6, HB⟩ := hrel
      have hk := Hk.out
      by_cases hlt : k < 64
      · have e1 : decide (k < 64) = true := decide_eq_true hlt
        have z1 : (k : Int) < 64 := by omega
        have c0 := (blk_cell HA6.out 0).trans rfl
        have c1 := (blk_cell HA6.out 1).trans rfl
        have c2 := (blk_cell HA6.out 2).trans rfl
        have c3 := (blk_cell HA6.out 3).trans rfl
        have c4 := (blk_cell HA6.out 4).trans rfl
        have c5 := (blk_cell HA6.out 5).trans rfl
        have c6 := (blk_cell HA6.out 6).trans rfl
        have c7 := (blk_cell HA6.out 7).trans rfl
        have m0 := HA4.out.cell k (by rw [HM64.out]; exact hlt)
        have m1 := HA5.out.cell k hlt
        obtain ⟨x, hx⟩ : ∃ x, x = M.getD k 0 := ⟨_, rfl⟩
        obtain ⟨y, hy⟩ : ∃ x, x = KT.getD k 0 := ⟨_, rfl⟩
        rw [← hx] at m0
        rw [← hy] at m1
        have HX := Aside0.mk hx
        have HY := Aside0.mk hy
        clear hx hy
        go_wp2
        go_quiet (fail)
        go_wp2
        go_quiet ((go_at_call 31; first | exact QT.quiet1 (turn_calls _ _ _ (by omega) (by omega)) | exact QT.quiet0 (turn_calls _ _ _ (by omega) (by omega))))
        go_wp2
        go_quiet ((go_at_call 31; first | exact QT.quiet1 (turn_calls _ _ _ (by omega) (by omega)) | exact QT.quiet0 (turn_calls _ _ _ (by omega) (by omega))))
        go_wp2
        obtain ⟨T, hT⟩ : ∃ T, rT a4 a5 a6 a7 y x = T := ⟨_, rfl⟩
        obtain ⟨U, hU⟩ : ∃ U, rU a0 a1 a2 = U := ⟨_, rfl⟩
        unfold rT at hT
        unfold rU at hU
        rw [hT, hU]
        have HT := Aside0.mk (show rT a4 a5 a6 a7 y x = T from hT)
        have HU := Aside0.mk (show rU a0 a1 a2 = U from hU)
        clear hT hU
        generalize hwn : World.drewN wr _ = w3
        have HA4' : Aside0 (Arr w3 g4 51 M) := ⟨by rw [← hwn]; exact HA4.out⟩
        have HA5' : Aside0 (Arr w3 g5 51 KT) := ⟨by rw [← hwn]; exact HA5.out⟩
        have HA6' : Aside0 (V8 w3 g6 a0 a1 a2 a3 a4 a5 a6 a7) := ⟨by rw [← hwn]; exact HA6.out⟩
        have HB' : Aside0 (Below w.heap.size w w3) := ⟨by rw [← hwn]; exact pw_below_drewN HB.out _⟩
        clear hwn c0 c1 c2 c3 c4 c5 c6 c7 m0 m1 HA4 HA5 HA6 HB
        go_still_tail 2, (by kernel_rfl)
        refine QT.drew_at ?_
        refine wpList_copy_own rfl _ _ 69 69 rfl 33 Try.underlying69 (by kernel_rfl) g6 1 7 7 ⟨g6, 0, none⟩ 7 8 rfl rfl _ _ (show ((w3.drewN nq).drewN 1).heap[g6]? = _ from HA6'.out) [.int .u32 a0, .int .u32 a1, .int .u32 a2, .int .u32 a3, .int .u32 a4, .int .u32 a5, .int .u32 a6] rfl (fun j v hj => by rw [add_plain]; exact (blk_cell HA6'.out j).trans (show (([(.int .u32 a0 : Value), .int .u32 a1, .int .u32 a2, .int .u32 a3, .int .u32 a4, .int .u32 a5, .int .u32 a6] ++ [(.int .u32 a7 : Value)]).toArray)[j]? = some v from pre_get [.int .u32 a0, .int .u32 a1, .int .u32 a2, .int .u32 a3, .int .u32 a4, .int .u32 a5, .int .u32 a6] [.int .u32 a7] j v hj)) (by simp) (by simp [Value.oneCell']) ?_
        obtain ⟨w4, hw4⟩ : ∃ w4, w4 = ((w3.drewN nq).drewN 1).setRow g6 #[.int .u32 a0, .int .u32 a0, .int .u32 a1, .int .u32 a2, .int .u32 a3, .int .u32 a4, .int .u32 a5, .int .u32 a6] := ⟨_, rfl⟩
        change wpList _ _ _ _ _ (((w3.drewN nq).drewN 1).setRow g6 #[.int .u32 a0, .int .u32 a0, .int .u32 a1, .int .u32 a2, .int .u32 a3, .int .u32 a4, .int .u32 a5, .int .u32 a6])
        rw [← hw4]
        have HA4 : Aside0 (Arr w4 g4 51 M) := ⟨by rw [hw4]; exact (setRow_other _ _ _ _ hn46).trans HA4'.out⟩
        have HA5 : Aside0 (Arr w4 g5 51 KT) := ⟨by rw [hw4]; exact (setRow_other _ _ _ _ hn56).trans HA5'.out⟩
        have HA6 : Aside0 (V8 w4 g6 a0 a0 a1 a2 a3 a4 a5 a6) := ⟨by rw [hw4]; exact setRow_heap _ _ _ _ _ _ (show ((w3.drewN nq).drewN 1).heap[g6]? = _ from HA6'.out)⟩
        have HB : Aside0 (Below w.heap.size w w4) := ⟨by rw [hw4]; exact below_setRow (pw_below_drewN (pw_below_drewN HB'.out _) 1) hge6 _⟩
        clear hw4 HA4' HA5' HA6' HB'
        have c0 := (blk_cell HA6.out 0).trans rfl
        have c4 := (blk_cell HA6.out 4).trans rfl
        have f0 := blk_frozen HA6.out 0
        have f4 := blk_frozen HA6.out 4
        go_wp2
        go_roundg (64 - (k + 1))
        case measure => have := HG.out; omega
        case rel =>
          refine ⟨k + 1, (T + U) % 4294967296, a0, a1, a2, (a3 + T) % 4294967296, a4, a5, a6, by go_num, ⟨by omega⟩, ⟨Nat.le_refl _⟩, ⟨by rw [rounds, HRR.out, ← HX.out, ← HY.out, ← HT.out, ← HU.out]; rfl⟩, ⟨?_⟩, ⟨?_⟩, ⟨?_⟩, ⟨?_⟩⟩
          · exact blk_far (blk_far HA4.out (by exact hn46) _) (by exact hn46) _
          · exact blk_far (blk_far HA5.out (by exact hn56) _) (by exact hn56) _
          · exact blk_put (blk_put HA6.out 0 _ rfl) 4 _ rfl
          · exact (HB.out.setCell hge6 _).setCell hge6 _
      · have e1 : decide (k < 64) = false := decide_eq_false hlt
        have hk64 : k = 64 := by omega
        subst hk64
        have HV : Aside0 (Arr wr g6 34 (S8.list ⟨a0, a1, a2, a3, a4, a5, a6, a7⟩)) := HA6
        have hD0 : DigL wr g (S8.list ⟨s0, s1, s2, s3, s4, s5, s6, s7⟩) true RR n := blk_below H.out HB.out
        have HD0 := Aside0.mk hD0
        have HGE : Aside0 (g < w.heap.size) := ⟨blk_lt H.out⟩
        obtain ⟨S, hS⟩ : ∃ S, S = S8.list ⟨s0, s1, s2, s3, s4, s5, s6, s7⟩ := ⟨_, rfl⟩
        obtain ⟨V, hV⟩ : ∃ V, V = S8.list ⟨a0, a1, a2, a3, a4, a5, a6, a7⟩ := ⟨_, rfl⟩
        rw [← hS] at HD0
        rw [← hV] at HV
        have HS := Aside0.mk hS
        have HVV := Aside0.mk hV
        clear hS hV hD0 HA4 HA5 HA6 e1 HG Hk hk hlt
        go_wp2
        obtain ⟨wo, hwo⟩ : ∃ wo : World, wo = wr := ⟨_, rfl⟩
        subst hwo
        go_loopg [96] 8 (fun gk v96 wr => ∃ (k : Nat), v96 = .int .i64 k ∧ Aside0 (k ≤ 8) ∧ Aside0 (8 - k ≤ gk) ∧ Aside0 (DigL wr g (addK S V k) true RR n) ∧ Aside0 (Arr wr g6 34 V) ∧ Aside0 (Keep w wr g))
        case atStart => exact ⟨0, rfl, ⟨by omega⟩, ⟨by omega⟩, HD0, HV, ⟨⟨KeepBut.of_below HB.out _ _, HB.out.mono (Nat.le_of_lt HGE.out)⟩⟩⟩
        case round =>
          clear HD0 HV HB
          obtain ⟨k, rfl, Hk, HG, HD, HV, HK⟩ := hrel
          have hk := Hk.out
          by_cases hlt : k < 8
          · have e1 : decide (k < 8) = true := decide_eq_true hlt
            have z1 : (k : Int) < 8 := by omega
            have hl8 : k < (addK S V k).length := by rw [addK_length, HS.out]; exact hlt
            have m0 := digL_cell HD.out k hl8
            have m1 := HV.out.cell k (by rw [HVV.out]; exact hlt)
            have f0 := blk_frozen HD.out k
            obtain ⟨x, hx⟩ : ∃ x, x = (addK S V k).getD k 0 := ⟨_, rfl⟩
            obtain ⟨y, hy⟩ : ∃ x, x = V.getD k 0 := ⟨_, rfl⟩
            rw [← hx] at m0
            rw [← hy] at m1
            have HX := Aside0.mk hx
            have HY := Aside0.mk hy
            have HL8 := Aside0.mk hl8
            clear hx hy hl8
            go_wp2
            go_still_tail 12, (by kernel_rfl)
            refine QT.drew_at ?_
            go_wp2
            go_roundg (8 - (k + 1))
            case measure => have := HG.out; omega
            case rel =>
              refine ⟨k + 1, by go_num, ⟨by omega⟩, ⟨Nat.le_refl _⟩, ⟨?_⟩, ⟨?_⟩, ⟨?_⟩⟩
              · have := digL_set (show DigL (wr.drewN 1) g (addK S V k) true RR n from HD.out) k ((x + y) % 4294967296) HL8.out
                rw [addK, ← HX.out, ← HY.out]; exact this
              · exact blk_far (p := ⟨g, k, none⟩) (show (wr.drewN 1).heap[g6]? = _ from HV.out) (by have := HGE.out; show g6 ≠ g; omega) _
              · exact Keep.set (HK.out.drewN 1) _ _
          · have e1 : decide (k < 8) = false := decide_eq_false hlt
            go_wp2
            go_end0
            have hk8 : k = 8 := by omega
            subst hk8
            refine ⟨rfl, ?_, HK0.out.trans HK.out⟩
            have := HD.out
            rw [HS.out, HVV.out, addK_all, ← HRR.out, HM.out] at this
            exact this
end Go.Proofs.Ytlonhkechpgbiaa.Sh
