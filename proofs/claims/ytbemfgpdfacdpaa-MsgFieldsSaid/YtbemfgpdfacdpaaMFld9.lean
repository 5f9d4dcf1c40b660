/- 2 texts of the proof, put together, less what is not used; what a tool printed stands among them. -/
import Derived.Test.YtbemfgpdfacdpaaMFld8
namespace Go.Proofs.Ytbemfgpdfacdpaa.Ms
open Go.RowKit Go.Proofs.Ytbemfgpdfacdpaa.Pr Go.Proofs.YtbemfgpdfacdpaaW.PrintWords Go.Proofs.YtbemfgpdfacdpaaW.PrintLast Go.Proofs.YtbemfgpdfacdpaaW.PrintMore
set_option linter.unusedVariables false
set_option linter.unusedSimpArgs false
structure M13 where
  kd : Int
  fr : Int
  tt : Int
  tm : Int
  ix : Int
  lt : Int
  cm : Int
  ys : Bool
  es : List S46
  si : Int
  st : Int
  sm : List Int
  sd : ByteArray
def M0 : M13 := ⟨0, 0, 0, 0, 0, 0, 0, false, [], 0, 0, [], ⟨#[]⟩⟩
def mcells (m : M13) (v8 v11 : Value) : Array Value := #[.int .i64 m.kd, .int .i64 m.fr, .int .i64 m.tt, .int .i64 m.tm, .int .i64 m.ix, .int .i64 m.lt, .int .i64 m.cm, .bool m.ys, v8, .int .i64 m.si, .int .i64 m.st, v11, .string m.sd]
/-- What is read behind the first four numbers: the message, what is left, whether it is none. -/
def bodyP (k f t n : Int) (l : List Int) (b : Bool) : M13 × List Int × Bool :=
  if k = 1 then (⟨k, f, t, n, (intsP l b 2).1.getD 0 0, (intsP l b 2).1.getD 1 0, 0, false, [], 0, 0, [], ⟨#[]⟩⟩, (intsP l b 2).2)
  else if k = 2 then (⟨k, f, t, n, 0, 0, 0, (((numP l b 1 1).1 : Int) == 1), [], 0, 0, [], ⟨#[]⟩⟩, (numP l b 1 1).2)
  else if k = 3 then (⟨k, f, t, n, (intsP l b 3).1.getD 0 0, (intsP l b 3).1.getD 1 0, (intsP l b 3).1.getD 2 0, false, (entP (intsP l b 3).2.1 (intsP l b 3).2.2).1, 0, 0, [], ⟨#[]⟩⟩, (entP (intsP l b 3).2.1 (intsP l b 3).2.2).2)
  else if k = 4 then (⟨k, f, t, n, (intsP (numP l b 1 1).2.1 (numP l b 1 1).2.2 1).1.getD 0 0, 0, 0, (((numP l b 1 1).1 : Int) == 1), [], 0, 0, [], ⟨#[]⟩⟩, (intsP (numP l b 1 1).2.1 (numP l b 1 1).2.2 1).2)
  else if k = 5 then (⟨k, f, t, n, 0, 0, 0, false, [], (intsP l b 2).1.getD 0 0, (intsP l b 2).1.getD 1 0, (memP (intsP l b 2).2.1 (intsP l b 2).2.2).1, (textP (memP (intsP l b 2).2.1 (intsP l b 2).2.2).2.1 (memP (intsP l b 2).2.1 (intsP l b 2).2.2).2.2 65536).1⟩, (textP (memP (intsP l b 2).2.1 (intsP l b 2).2.2).2.1 (memP (intsP l b 2).2.1 (intsP l b 2).2.2).2.2 65536).2)
  else (⟨k, f, t, n, 0, 0, 0, false, [], 0, 0, [], ⟨#[]⟩⟩, l, true)
def headP (l : List Int) : Nat × List Int × List Int × Bool :=
  ((numP l false 1 5).1, intsP (numP l false 1 5).2.1 (numP l false 1 5).2.2 3)
def rawP (l : List Int) : M13 × List Int × Bool :=
  bodyP (headP l).1 ((headP l).2.1.getD 0 0) ((headP l).2.1.getD 1 0) ((headP l).2.1.getD 2 0) (headP l).2.2.1 (headP l).2.2.2
def isNode (i : Int) : Bool := decide (1 ≤ i) && decide (i ≤ 9)
def decP (l : List Int) : Option M13 := if (rawP l).2.2 = true ∨ (rawP l).2.1 ≠ [] ∨ isNode (rawP l).1.fr = false ∨ isNode (rawP l).1.tt = false then none else some (rawP l).1
def DecQ (w : World) (r : Option M13) (e : Ending) (w' : World) : Prop :=
  (∃ A8 n8 c8 A11 n11 c11, e = .returned (.tuple #[.agg (mcells (r.getD M0) (.slice A8 n8 c8) (.slice A11 n11 c11)), .int .i64 (if r.isSome then 0 else 7)]) ∧ n8 = (r.getD M0).es.length ∧ n8 ≤ c8 ∧ k46.C w' A8 n8 (r.getD M0).es ∧ n11 = (r.getD M0).sm.length ∧ n11 ≤ c11 ∧ (Kd.int .i64).C w' A11 n11 (r.getD M0).sm) ∧ Below w.heap.size w w'
theorem node_calls (i : Int) (w : World) : Calls Try.prog 34 #[.int .i64 i] w fun e w' => e = .returned (.bool (isNode i)) ∧ Drawn0 w w' := by
  refine msg_node.calls i (isNode i) w ?_
  unfold msg_node.f isNode
  split
  · rename_i h; simp; intro _; omega
  · rename_i h; simp; omega
theorem results_two {fn : Func} {p q : Tmp} {ty : TypeId} (h : fn.results = #[.cell p ty, .tmp q]) (tmps : Array Value) (w : World) (g : Nat) (t : TypeId) (cs : Array Value) (fr : Nat × Nat) {fs} (u : Value)
    (hp : tmps.getD p undef = .pointer (some ⟨g, 0, none⟩)) (hq : tmps.getD q undef = u) (hg : w.heap[g]? = some (.cells cs t fr))
    (hu : Try.prog.underlying ty = some (.struct fs)) (hi : (Try.prog.info? ty).map (·.size) = some cs.size) :
    (results fn tmps).run Try.prog w = .ok (.tuple #[.agg cs, u]) w := by
  have hp' : tmps[p]?.getD undef = .pointer (some ⟨g, 0, none⟩) := by simpa using hp
  have hq' : tmps[q]?.getD undef = u := by simpa using hq
  simp [results, h, hp', hq', asAddr, run_loadVar_row w g t ty cs fr _ hg hu rfl hi]
theorem blk_here (w : World) (o : Obj) {g : Nat} (hg : g = w.heap.size) : (w.alloc o).heap[g]? = some o := by subst hg; exact blk_new w o
theorem size_msg : (Try.prog.info? 27).map (·.size) = some 13 := by kernel_rfl
theorem bodyP_1 (f t n : Int) (l : List Int) (b : Bool) : bodyP ((1 : Nat) : Int) f t n l b = (⟨1, f, t, n, (intsP l b 2).1.getD 0 0, (intsP l b 2).1.getD 1 0, 0, false, [], 0, 0, [], ⟨#[]⟩⟩, (intsP l b 2).2) := rfl
theorem bodyP_2 (f t n : Int) (l : List Int) (b : Bool) : bodyP ((2 : Nat) : Int) f t n l b = (⟨2, f, t, n, 0, 0, 0, (((numP l b 1 1).1 : Int) == 1), [], 0, 0, [], ⟨#[]⟩⟩, (numP l b 1 1).2) := rfl
theorem bodyP_3 (f t n : Int) (l : List Int) (b : Bool) : bodyP ((3 : Nat) : Int) f t n l b = (⟨3, f, t, n, (intsP l b 3).1.getD 0 0, (intsP l b 3).1.getD 1 0, (intsP l b 3).1.getD 2 0, false, (entP (intsP l b 3).2.1 (intsP l b 3).2.2).1, 0, 0, [], ⟨#[]⟩⟩, (entP (intsP l b 3).2.1 (intsP l b 3).2.2).2) := rfl
theorem bodyP_4 (f t n : Int) (l : List Int) (b : Bool) : bodyP ((4 : Nat) : Int) f t n l b = (⟨4, f, t, n, (intsP (numP l b 1 1).2.1 (numP l b 1 1).2.2 1).1.getD 0 0, 0, 0, (((numP l b 1 1).1 : Int) == 1), [], 0, 0, [], ⟨#[]⟩⟩, (intsP (numP l b 1 1).2.1 (numP l b 1 1).2.2 1).2) := rfl
theorem bodyP_5 (f t n : Int) (l : List Int) (b : Bool) : bodyP ((5 : Nat) : Int) f t n l b = (⟨5, f, t, n, 0, 0, 0, false, [], (intsP l b 2).1.getD 0 0, (intsP l b 2).1.getD 1 0, (memP (intsP l b 2).2.1 (intsP l b 2).2.2).1, (textP (memP (intsP l b 2).2.1 (intsP l b 2).2.2).2.1 (memP (intsP l b 2).2.1 (intsP l b 2).2.2).2.2 65536).1⟩, (textP (memP (intsP l b 2).2.1 (intsP l b 2).2.2).2.1 (memP (intsP l b 2).2.1 (intsP l b 2).2.2).2.2 65536).2) := rfl
theorem entL_left {P : Int → Prop} : ∀ (k : Nat) (acc : List S46) (l : List Int) (b : Bool), (∀ x ∈ l, P x) → ∀ x ∈ (entL k acc l b).2.1, P x
  | 0, acc, l, b, h => h
  | k + 1, acc, l, b, h => by
    rw [entL]
    split
    · exact h
    · exact entL_left k _ _ _ (entryP_left h)
theorem entP_left {l : List Int} {bad : Bool} {P : Int → Prop} (h : ∀ x ∈ l, P x) : ∀ x ∈ (entP l bad).2.1, P x := by
  rw [entP]
  exact entL_left _ _ _ _ (numP_left h)
theorem decQ_none {w W : World} (hB : Below w.heap.size w W) : DecQ w none (.returned (.tuple #[.agg (mcells M0 (.slice none 0 0) (.slice none 0 0)), .int .i64 7])) W :=
  ⟨⟨none, 0, 0, none, 0, 0, rfl, rfl, Nat.le_refl _, Kd.C_nil _ _, rfl, Nat.le_refl _, Kd.C_nil _ _⟩, hB⟩
theorem R_final {α : Type} {d : Kd α} {e base n c z : Nat} {ok : Nat → Prop} {W W2 : World} {A : Option Addr} {xs : List α} (h : d.R e W base ok (.slice A n c) xs) (hk : Kept W W2 (fun k => k = z)) (hz : ∀ k, ok k → k ≠ z) : n = xs.length ∧ n ≤ c ∧ d.C W2 A n xs := by
  have q := Kd.R_reads' (Kd.R_kept h hk hz)
  exact ⟨q.1, q.2.1, by rw [q.1]; exact q.2.2⟩
theorem decQ_some {w W W2 : World} {z base : Nat} {m : M13} {A8 A11 : Option Addr} {n8 c8 n11 c11 : Nat} (h8 : k46.R 46 W base (fun k => z < k) (.slice A8 n8 c8) m.es) (h11 : (Kd.int .i64).R 3 W base (fun k => z < k) (.slice A11 n11 c11) m.sm) (hk : Kept W W2 (fun k => k = w.heap.size)) (hz : w.heap.size ≤ z) (hB : Below w.heap.size w W2) :
    DecQ w (some m) (.returned (.tuple #[.agg (mcells m (.slice A8 n8 c8) (.slice A11 n11 c11)), .int .i64 0])) W2 := by
  have q8 := R_final h8 hk (fun k hk => by omega)
  have q11 := R_final h11 hk (fun k hk => by omega)
  exact ⟨⟨A8, n8, c8, A11, n11, c11, rfl, q8.1, q8.2.1, q8.2.2, q11.1, q11.2.1, q11.2.2⟩, hB⟩
theorem one_cells (m : M13) (A8 : Option Addr) (n8 c8 : Nat) (A11 : Option Addr) (n11 c11 : Nat) : (mcells m (.slice A8 n8 c8) (.slice A11 n11 c11)).all (·.oneCell') = true := by simp [mcells, Value.oneCell']
theorem kept_setRow (W : World) (g : Nat) (cs : Array Value) : Kept W (W.setRow g cs) (fun k => k = g) := ⟨by simp, fun i _ hn => setRow_other W g i cs hn⟩
set_option maxHeartbeats 16000000 in
set_option maxRecDepth 100000 in
theorem decode_calls (A : Option Addr) (n c : Nat) (l : List Int) (w : World) (hC : (Kd.int .u8).C w A l.length l) (hn : n = l.length) (hc : n ≤ c) (hby : ∀ x ∈ l, 0 ≤ x ∧ x ≤ 255) (hl : n ≤ 140737488351232) :
    Calls Try.prog 13 #[.slice A n c] w (DecQ w (decP l)) := by
  have HC := Aside0.mk hC
  have HN := Aside0.mk hn
  have HBY := Aside0.mk hby
  obtain ⟨q, hq⟩ : ∃ q, q = decP l := ⟨_, rfl⟩
  rw [← hq]
  have HQ0 := Aside0.mk hq
  clear hC hn hby hq
  go_enter Try.func13, Try.ntmps13
  go_wp2_with fail
  generalize hw1 : World.alloc (World.alloc (World.alloc w _) _) _ = w1
  obtain ⟨g, hg⟩ : ∃ g, g = w.heap.size + 1 := ⟨_, rfl⟩
  rw [show w.heap.size + 1 + 1 = g + 1 by omega, ← hg]
  have HG : Aside0 (w.heap.size ≤ g) := ⟨by omega⟩
  have HGG : Aside0 (w.heap.size < g) := ⟨by omega⟩
  have HR1 : Aside0 (Rd w w1 g l false) := ⟨⟨A, n, c, by rw [← hw1, hg]; exact blk_alloc (blk_here _ _ (by simp)) _, HN.out, hc, HC.out, by rw [← HN.out]; exact hl⟩⟩
  have HM1 : Aside0 (w1.heap[g + 1]? = some (.cells (mcells M0 (.slice none 0 0) (.slice none 0 0)) 27 (0, 0))) := ⟨by
    have := blk_new ((w.alloc (.cells (mcells M0 (.slice none 0 0) (.slice none 0 0)) 27)).alloc (.cells #[.slice A n c, .bool false] 66)) (.cells (mcells M0 (.slice none 0 0) (.slice none 0 0)) 27)
    rw [← hw1, show g + 1 = ((w.alloc (.cells (mcells M0 (.slice none 0 0) (.slice none 0 0)) 27)).alloc (.cells #[.slice A n c, .bool false] 66)).heap.size by simp; omega]
    exact this⟩
  have HZ1 : Aside0 (w1.heap[w.heap.size]? = some (.cells (mcells M0 (.slice none 0 0) (.slice none 0 0)) 27 (0, 0))) := ⟨by rw [← hw1]; exact blk_alloc (blk_alloc (blk_new w _) _) _⟩
  have HB1 : Aside0 (Below w.heap.size w w1) := ⟨by rw [← hw1]; exact below_alloc (below_alloc (below_alloc (Below.refl _ _) _) _) _⟩
  clear hw1 hg
  have hq0 := HQ0.out
  refine (rnum_calls w w1 g l false 1 5 HB1.out HG.out HR1.out HBY.out (by decide) (by decide)).mono ?_
  rintro e w2 ⟨rfl, hR2, hK2, hB2⟩
  have hk5 := numP_le l false 1 5
  have hby2 := numP_left (bad := false) (n := 1) (m := 5) HBY.out
  have hM2 := blk_kept HM1.out hK2 (by omega)
  have hZ2 := blk_kept HZ1.out hK2 (by have := HGG.out; omega)
  have f2 := blk_frozen hM2 0
  have m2 : w2.cell? ⟨g + 1, 0, none⟩ = some (.int .i64 0) := blk_cell hM2 0
  obtain ⟨r1, hr1⟩ : ∃ r1, r1 = numP l false 1 5 := ⟨_, rfl⟩
  have hHP : headP l = (r1.1, intsP r1.2.1 r1.2.2 3) := by rw [hr1]; rfl
  rw [← hr1] at hR2 hk5 hby2 ⊢
  obtain ⟨k, l2, b2⟩ := r1
  have HM2 := Aside0.mk (blk_set hM2 0 (.int .i64 k))
  have HZ2 : Aside0 ((w2.setCell ⟨g + 1, 0, none⟩ (.int .i64 k)).heap[w.heap.size]? = _) := ⟨blk_far hZ2 (p := ⟨g + 1, 0, none⟩) (by show w.heap.size ≠ g + 1; have := HGG.out; omega) _⟩
  have HR2 : Aside0 (Rd w (w2.setCell ⟨g + 1, 0, none⟩ (.int .i64 k)) g l2 b2) := ⟨hR2.kept (S := fun k => k = g + 1) (Kept.setCell (S := fun k => k = g + 1) (p := ⟨g + 1, 0, none⟩) (Kept.refl _ _) (.inl rfl) _) (by omega)⟩
  have HB2 : Aside0 (Below w.heap.size w (w2.setCell ⟨g + 1, 0, none⟩ (.int .i64 k))) := ⟨hB2.setCell (p := ⟨g + 1, 0, none⟩) (by show w.heap.size ≤ g + 1; have := HG.out; omega) _⟩
  have HBY2 := Aside0.mk hby2
  have HHP := Aside0.mk hHP
  have hg2 : g + 1 < w2.heap.size := blk_lt hM2
  have HG2 := Aside0.mk hg2
  clear hR2 hK2 hB2 hM2 hZ2 hby2 hr1 hHP hg2 HR1 HM1 HZ1 HB1
  go_upto_region 3 with (fail)
  obtain ⟨w3, hw3⟩ : ∃ w3, w3 = w2.setCell ⟨g + 1, 0, none⟩ (.int .i64 k) := ⟨_, rfl⟩
  rw [← hw3] at HM2 HZ2 HR2 HB2 ⊢
  have HG3 : Aside0 (g + 1 < w3.heap.size) := ⟨by rw [hw3]; simpa using HG2.out⟩
  clear hw3 f2 m2 HG2
  go_wp2_with fail
  refine (rints_calls w _ g l2 b2 w3.heap.size (g + 1) 1 3 _ 27 (HB2.out.alloc HB2.out.size _) HG.out (by have := HG.out; omega) (HR2.out.kept (S := fun _ => False) ((Kept.refl _ _).alloc _) (fun h => h)) HBY2.out (by decide) (blk_alloc HM2.out _) (blk_new w3 (.cells (ptrs (g + 1) 1 3) 68)) (by omega) (by have := HG3.out; omega) (by have := HG3.out; omega) (fun i hi => ?_)).mono ?_
  · have : i = 0 ∨ i = 1 ∨ i = 2 := by omega
    rcases this with rfl | rfl | rfl <;> exact ⟨_, rfl⟩
  rintro e w4 ⟨rfl, hR4, hM4, hK4, hB4⟩
  have hK34 : Kept w3 w4 (fun k => k = g ∨ k = g + 1) := ((Kept.refl w3 (fun k => k = g ∨ k = g + 1)).alloc _).then_ hK4 (fun k hk => .inl hk)
  have hZ4 := blk_kept HZ2.out hK34 (by have := HGG.out; simp; omega)
  have hg4 : g + 1 < w4.heap.size := Nat.lt_of_lt_of_le HG3.out hK34.1
  have hby4 := intsP_left (bad := b2) HBY2.out 3
  have hHP := HHP.out
  obtain ⟨r3, hr3⟩ : ∃ r3, r3 = intsP l2 b2 3 := ⟨_, rfl⟩
  have hl3 : r3.1.length = 3 := by rw [hr3]; exact intsP_length _ _ _
  rw [← hr3] at hR4 hM4 hby4 hHP
  obtain ⟨vs, l4, b4⟩ := r3
  obtain ⟨x0, x1, x2, rfl⟩ : ∃ x0 x1 x2, vs = [x0, x1, x2] := by
    match vs, hl3 with
    | [x0, x1, x2], _ => exact ⟨_, _, _, rfl⟩
  have hM4' : w4.heap[g + 1]? = some (.cells #[.int .i64 k, .int .i64 x0, .int .i64 x1, .int .i64 x2, .int .i64 0, .int .i64 0, .int .i64 0, .bool false, .slice none 0 0, .int .i64 0, .int .i64 0, .slice none 0 0, .string ⟨#[]⟩] 27 (0, 0)) := hM4
  have hraw : rawP l = bodyP k x0 x1 x2 l4 b4 := by simp only [rawP, hHP]; rfl
  have m4 : w4.cell? ⟨g + 1, 0, none⟩ = some (.int .i64 k) := blk_cell hM4' 0
  have HR4 := Aside0.mk hR4
  have HM4 := Aside0.mk hM4'
  have HZ4 := Aside0.mk hZ4
  have HB4 := Aside0.mk hB4
  have HBY4 := Aside0.mk hby4
  have HRAW := Aside0.mk hraw
  have HG4 := Aside0.mk hg4
  have HZ : Aside0 (w.heap.size ≠ g + 1 ∧ w.heap.size ≠ g) := ⟨by have := HGG.out; omega⟩
  clear hR4 hM4 hM4' hZ4 hB4 hby4 hraw hg4 hK34 hK4 hHP hr3 hl3 HR2 HM2 HZ2 HB2 HBY2 HG3 HHP
  have hq0' := HQ0.out
  rw [decP] at hq0'
  clear hq0
  have HQ := Aside0.mk hq0'
  clear HQ0 hq0'
  obtain hk | hk | hk | hk | hk | hk : k = 0 ∨ k = 1 ∨ k = 2 ∨ k = 3 ∨ k = 4 ∨ k = 5 := by have : k ≤ 5 := hk5; omega
  · subst hk
    have hm : rawP l = ((⟨0, x0, x1, x2, 0, 0, 0, false, [], 0, 0, [], ⟨#[]⟩⟩ : M13), l4, true) := by rw [HRAW.out]; rfl
    obtain ⟨A, n', c', hb', hrd⟩ := HR4.out
    have f1 := blk_frozen hb' 1
    have m1 : w4.cell? ⟨g, 1, none⟩ = some (.bool b4) := blk_cell hb' 1
    clear hb' hrd
    go_upto_region 20 with (fail)
    have HRT : Aside0 (Rd w (w4.setCell ⟨g, 1, none⟩ (.bool true)) g l4 true) := ⟨HR4.out.set⟩
    have HMT : Aside0 ((w4.setCell ⟨g, 1, none⟩ (.bool true)).heap[g + 1]? = some (.cells (mcells (⟨0, x0, x1, x2, 0, 0, 0, false, [], 0, 0, [], ⟨#[]⟩⟩ : M13) (.slice none 0 0) (.slice none 0 0)) 27 (0, 0))) := ⟨blk_far HM4.out (p := ⟨g, 1, none⟩) (by show g + 1 ≠ g; omega) _⟩
    have HZT : Aside0 ((w4.setCell ⟨g, 1, none⟩ (.bool true)).heap[w.heap.size]? = _) := ⟨blk_far HZ4.out (p := ⟨g, 1, none⟩) HZ.out.2 _⟩
    have HBT : Aside0 (Below w.heap.size w (w4.setCell ⟨g, 1, none⟩ (.bool true))) := ⟨HB4.out.setCell (p := ⟨g, 1, none⟩) HG.out _⟩
    obtain ⟨W, hW⟩ : ∃ W, W = w4.setCell ⟨g, 1, none⟩ (.bool true) := ⟨_, rfl⟩
    rw [← hW] at HRT HMT HZT HBT ⊢
    have HE8 : Aside0 (k46.R 46 W w.heap.size (fun k => g + 1 < k) (.slice none 0 0) (⟨0, x0, x1, x2, 0, 0, 0, false, [], 0, 0, [], ⟨#[]⟩⟩ : M13).es) := ⟨Kd.R_nil _ _ _ _ _⟩
    have HS11 : Aside0 ((Kd.int .i64).R 3 W w.heap.size (fun k => g + 1 < k) (.slice none 0 0) (⟨0, x0, x1, x2, 0, 0, 0, false, [], 0, 0, [], ⟨#[]⟩⟩ : M13).sm) := ⟨Kd.R_nil _ _ _ _ _⟩
    have HRAWT := Aside0.mk hm
    obtain ⟨lt, hlt⟩ : ∃ lt, lt = l4 := ⟨_, rfl⟩
    obtain ⟨bt, hbt⟩ : ∃ bt, bt = true := ⟨_, rfl⟩
    rw [← hlt, ← hbt] at HRT HRAWT
    have HME := ()
    clear hW m1 f1 m4 HM4 HR4 HZ4 HB4 hm hlt hbt
    obtain ⟨A', n', c', hb', hn', hc', _, _⟩ := HRT.out
    have t0 : W.cell? ⟨g, 0, none⟩ = some (.slice A' n' c') := blk_cell hb' 0
    have t1 : W.cell? ⟨g, 1, none⟩ = some (.bool bt) := blk_cell hb' 1
    obtain ⟨m, hme⟩ : ∃ m : M13, m = (⟨0, x0, x1, x2, 0, 0, 0, false, [], 0, 0, [], ⟨#[]⟩⟩ : M13) := ⟨_, rfl⟩
    rw [← hme] at HMT HE8 HS11 HRAWT
    have hf1 : m.fr = x0 := by rw [hme]
    have hf2 : m.tt = x1 := by rw [hme]
    have t2 : W.cell? ⟨g + 1, 1, none⟩ = some (.int .i64 x0) := by rw [← hf1]; exact blk_cell HMT.out 1
    have t3 : W.cell? ⟨g + 1, 2, none⟩ = some (.int .i64 x1) := by rw [← hf2]; exact blk_cell HMT.out 2
    have HN' := Aside0.mk hn'
    have HF1 := Aside0.mk hf1
    have HF2 := Aside0.mk hf2
    clear hb' hn' hc' hf1 hf2 hme HME
    cases bt
    · by_cases c2 : n' = 0
      · subst c2
        have hlt : lt = [] := List.eq_nil_of_length_eq_zero HN'.out.symm
        cases c3 : isNode x0
        · obtain rfl : q = none := by rw [HQ.out, HRAWT.out]; exact if_pos (.inr (.inr (.inl (by show isNode m.fr = false; rw [HF1.out]; exact c3))))
          clear HQ HRAWT
          go_wp2_with fail
          refine (node_calls x0 W).mono ?_
          rintro e w6 ⟨rfl, md, hw6⟩
          rw [c3]
          have HZ6 : Aside0 (w6.heap[w.heap.size]? = some (.cells (mcells M0 (.slice none 0 0) (.slice none 0 0)) 27 (0, 0))) := ⟨by rw [hw6]; exact HZT.out⟩
          have HM6 : Aside0 (w6.heap[g + 1]? = some (.cells (mcells m (.slice none 0 0) (.slice none 0 0)) 27 (0, 0))) := ⟨by rw [hw6]; exact HMT.out⟩
          have HB6 : Aside0 (Below w.heap.size w w6) := ⟨by rw [hw6]; exact pw_below_drewN HBT.out md⟩
          have HK6 : Aside0 (Kept W w6 (fun k => k = w.heap.size)) := ⟨by rw [hw6]; exact (Kept.refl _ _).drewN md⟩
          have t6 : w6.cell? ⟨g + 1, 2, none⟩ = some (.int .i64 x1) := by rw [hw6]; exact t3
          clear hw6
          go_wp2_with (refine wpList_store_row rfl 27 _ _ rfl w.heap.size #[.int .i64 0, .int .i64 0, .int .i64 0, .int .i64 0, .int .i64 0, .int .i64 0, .int .i64 0, .bool false, .slice none 0 0, .int .i64 0, .int .i64 0, .slice none 0 0, .string ⟨#[]⟩] rfl rfl 27 _ HZ6.out size_msg rfl (one_cells M0 none 0 0 none 0 0) ?_)

          exact bodyPost_ret (results_two rfl _ _ w.heap.size 27 #[.int .i64 0, .int .i64 0, .int .i64 0, .int .i64 0, .int .i64 0, .int .i64 0, .int .i64 0, .bool false, .slice none 0 0, .int .i64 0, .int .i64 0, .slice none 0 0, .string ⟨#[]⟩] (0, 0) (.int .i64 7) rfl rfl (setRow_heap _ _ _ _ _ _ HZ6.out) Try.underlying27 size_msg) rfl (decQ_none (below_setRow HB6.out (Nat.le_refl _) _))
        cases c4 : isNode x1
        · obtain rfl : q = none := by rw [HQ.out, HRAWT.out]; exact if_pos (.inr (.inr (.inr (by show isNode m.tt = false; rw [HF2.out]; exact c4))))
          clear HQ HRAWT
          go_wp2_with fail
          refine (node_calls x0 W).mono ?_
          rintro e w6 ⟨rfl, md, hw6⟩
          rw [c3]
          have HZ6 : Aside0 (w6.heap[w.heap.size]? = some (.cells (mcells M0 (.slice none 0 0) (.slice none 0 0)) 27 (0, 0))) := ⟨by rw [hw6]; exact HZT.out⟩
          have HM6 : Aside0 (w6.heap[g + 1]? = some (.cells (mcells m (.slice none 0 0) (.slice none 0 0)) 27 (0, 0))) := ⟨by rw [hw6]; exact HMT.out⟩
          have HB6 : Aside0 (Below w.heap.size w w6) := ⟨by rw [hw6]; exact pw_below_drewN HBT.out md⟩
          have HK6 : Aside0 (Kept W w6 (fun k => k = w.heap.size)) := ⟨by rw [hw6]; exact (Kept.refl _ _).drewN md⟩
          have t6 : w6.cell? ⟨g + 1, 2, none⟩ = some (.int .i64 x1) := by rw [hw6]; exact t3
          clear hw6
          go_wp2_with fail
          refine (node_calls x1 w6).mono ?_
          rintro e w7 ⟨rfl, md, hw7⟩
          rw [c4]
          have HZ7 : Aside0 (w7.heap[w.heap.size]? = some (.cells (mcells M0 (.slice none 0 0) (.slice none 0 0)) 27 (0, 0))) := ⟨by rw [hw7]; exact HZ6.out⟩
          have HM7 : Aside0 (w7.heap[g + 1]? = some (.cells (mcells m (.slice none 0 0) (.slice none 0 0)) 27 (0, 0))) := ⟨by rw [hw7]; exact HM6.out⟩
          have HB7 : Aside0 (Below w.heap.size w w7) := ⟨by rw [hw7]; exact pw_below_drewN HB6.out md⟩
          have HK7 : Aside0 (Kept W w7 (fun k => k = w.heap.size)) := ⟨by rw [hw7]; exact HK6.out.drewN md⟩
          clear hw7
          go_wp2_with (refine wpList_store_row rfl 27 _ _ rfl w.heap.size #[.int .i64 0, .int .i64 0, .int .i64 0, .int .i64 0, .int .i64 0, .int .i64 0, .int .i64 0, .bool false, .slice none 0 0, .int .i64 0, .int .i64 0, .slice none 0 0, .string ⟨#[]⟩] rfl rfl 27 _ HZ7.out size_msg rfl (one_cells M0 none 0 0 none 0 0) ?_)

          exact bodyPost_ret (results_two rfl _ _ w.heap.size 27 #[.int .i64 0, .int .i64 0, .int .i64 0, .int .i64 0, .int .i64 0, .int .i64 0, .int .i64 0, .bool false, .slice none 0 0, .int .i64 0, .int .i64 0, .slice none 0 0, .string ⟨#[]⟩] (0, 0) (.int .i64 7) rfl rfl (setRow_heap _ _ _ _ _ _ HZ7.out) Try.underlying27 size_msg) rfl (decQ_none (below_setRow HB7.out (Nat.le_refl _) _))
        · obtain rfl : q = some m := by
            rw [HQ.out, HRAWT.out]
            exact if_neg (by show ¬ (false = true ∨ lt ≠ [] ∨ isNode m.fr = false ∨ isNode m.tt = false); rw [HF1.out, HF2.out, c3, c4, hlt]; simp)
          clear HQ HRAWT
          go_wp2_with fail
          refine (node_calls x0 W).mono ?_
          rintro e w6 ⟨rfl, md, hw6⟩
          rw [c3]
          have HZ6 : Aside0 (w6.heap[w.heap.size]? = some (.cells (mcells M0 (.slice none 0 0) (.slice none 0 0)) 27 (0, 0))) := ⟨by rw [hw6]; exact HZT.out⟩
          have HM6 : Aside0 (w6.heap[g + 1]? = some (.cells (mcells m (.slice none 0 0) (.slice none 0 0)) 27 (0, 0))) := ⟨by rw [hw6]; exact HMT.out⟩
          have HB6 : Aside0 (Below w.heap.size w w6) := ⟨by rw [hw6]; exact pw_below_drewN HBT.out md⟩
          have HK6 : Aside0 (Kept W w6 (fun k => k = w.heap.size)) := ⟨by rw [hw6]; exact (Kept.refl _ _).drewN md⟩
          have t6 : w6.cell? ⟨g + 1, 2, none⟩ = some (.int .i64 x1) := by rw [hw6]; exact t3
          clear hw6
          go_wp2_with fail
          refine (node_calls x1 w6).mono ?_
          rintro e w7 ⟨rfl, md, hw7⟩
          rw [c4]
          have HZ7 : Aside0 (w7.heap[w.heap.size]? = some (.cells (mcells M0 (.slice none 0 0) (.slice none 0 0)) 27 (0, 0))) := ⟨by rw [hw7]; exact HZ6.out⟩
          have HM7 : Aside0 (w7.heap[g + 1]? = some (.cells (mcells m (.slice none 0 0) (.slice none 0 0)) 27 (0, 0))) := ⟨by rw [hw7]; exact HM6.out⟩
          have HB7 : Aside0 (Below w.heap.size w w7) := ⟨by rw [hw7]; exact pw_below_drewN HB6.out md⟩
          have HK7 : Aside0 (Kept W w7 (fun k => k = w.heap.size)) := ⟨by rw [hw7]; exact HK6.out.drewN md⟩
          clear hw7
          go_wp2_with (first
            | refine wpList_load_row rfl 27 _ rfl (g + 1) rfl 27 (mcells m (.slice none 0 0) (.slice none 0 0)) (0, 0) _ HM7.out Try.underlying27 rfl size_msg ?_
            | refine wpList_store_row rfl 27 _ _ rfl w.heap.size (mcells m (.slice none 0 0) (.slice none 0 0)) rfl rfl 27 _ HZ7.out size_msg rfl (one_cells _ _ _ _ _ _ _) ?_)

          exact bodyPost_ret (results_two rfl _ _ w.heap.size 27 (mcells m (.slice none 0 0) (.slice none 0 0)) (0, 0) (.int .i64 0) rfl rfl (setRow_heap _ _ _ _ _ _ HZ7.out) Try.underlying27 size_msg) rfl (decQ_some HE8.out HS11.out (HK7.out.then_ (kept_setRow _ _ _) (fun _ h => .inl h)) (by have := HGG.out; omega) (below_setRow HB7.out (Nat.le_refl _) _))
      · have c2' : 0 < n' := by omega
        obtain rfl : q = none := by rw [HQ.out, HRAWT.out]; exact if_pos (.inr (.inl (by show lt ≠ []; intro he; rw [he] at HN'; exact c2 HN'.out)))
        clear HQ HRAWT
        go_wp2_with (refine wpList_store_row rfl 27 _ _ rfl w.heap.size #[.int .i64 0, .int .i64 0, .int .i64 0, .int .i64 0, .int .i64 0, .int .i64 0, .int .i64 0, .bool false, .slice none 0 0, .int .i64 0, .int .i64 0, .slice none 0 0, .string ⟨#[]⟩] rfl rfl 27 _ HZT.out size_msg rfl (one_cells M0 none 0 0 none 0 0) ?_)

        exact bodyPost_ret (results_two rfl _ _ w.heap.size 27 #[.int .i64 0, .int .i64 0, .int .i64 0, .int .i64 0, .int .i64 0, .int .i64 0, .int .i64 0, .bool false, .slice none 0 0, .int .i64 0, .int .i64 0, .slice none 0 0, .string ⟨#[]⟩] (0, 0) (.int .i64 7) rfl rfl (setRow_heap _ _ _ _ _ _ HZT.out) Try.underlying27 size_msg) rfl (decQ_none (below_setRow HBT.out (Nat.le_refl _) _))
    · obtain rfl : q = none := by rw [HQ.out, HRAWT.out]; exact if_pos (.inl rfl)
      clear HQ HRAWT
      go_wp2_with (refine wpList_store_row rfl 27 _ _ rfl w.heap.size #[.int .i64 0, .int .i64 0, .int .i64 0, .int .i64 0, .int .i64 0, .int .i64 0, .int .i64 0, .bool false, .slice none 0 0, .int .i64 0, .int .i64 0, .slice none 0 0, .string ⟨#[]⟩] rfl rfl 27 _ HZT.out size_msg rfl (one_cells M0 none 0 0 none 0 0) ?_)

      exact bodyPost_ret (results_two rfl _ _ w.heap.size 27 #[.int .i64 0, .int .i64 0, .int .i64 0, .int .i64 0, .int .i64 0, .int .i64 0, .int .i64 0, .bool false, .slice none 0 0, .int .i64 0, .int .i64 0, .slice none 0 0, .string ⟨#[]⟩] (0, 0) (.int .i64 7) rfl rfl (setRow_heap _ _ _ _ _ _ HZT.out) Try.underlying27 size_msg) rfl (decQ_none (below_setRow HBT.out (Nat.le_refl _) _))
  · subst hk
    go_wp2_with fail
    refine (rints_calls w _ g l4 b4 w4.heap.size (g + 1) 4 2 _ 27 (HB4.out.alloc HB4.out.size _) HG.out (by have := HG.out; omega) (HR4.out.kept (S := fun _ => False) ((Kept.refl _ _).alloc _) (fun h => h)) HBY4.out (by decide) (blk_alloc HM4.out _) (blk_new w4 (.cells (ptrs (g + 1) 4 2) 68)) (by omega) (by have := HG4.out; omega) (by have := HG4.out; omega) (fun i hi => ?_)).mono ?_
    · have : i = 0 ∨ i = 1 := by omega
      rcases this with rfl | rfl <;> exact ⟨_, rfl⟩
    rintro e w5 ⟨rfl, hR, hM, hK, hB⟩
    have hK' : Kept w4 w5 (fun k => k = g ∨ k = g + 1) := ((Kept.refl w4 (fun k => k = g ∨ k = g + 1)).alloc _).then_ hK (fun k hk => .inl hk)
    have HZ5 := Aside0.mk (blk_kept HZ4.out hK' (by have := HZ.out; simp; omega))
    have HG5 : Aside0 (g + 1 < w5.heap.size) := ⟨Nat.lt_of_lt_of_le HG4.out hK'.1⟩
    have hby := intsP_left (bad := b4) HBY4.out 2
    obtain ⟨r, hr⟩ : ∃ r, r = intsP l4 b4 2 := ⟨_, rfl⟩
    have hl3 : r.1.length = 2 := by rw [hr]; exact intsP_length _ _ _
    have hrw := HRAW.out
    rw [bodyP_1] at hrw
    rw [← hr] at hR hM hby hrw
    obtain ⟨vs, l5, b5⟩ := r
    obtain ⟨y40, y41, rfl⟩ : ∃ y40 y41, vs = [y40, y41] := by
      match vs, hl3 with
      | [y40, y41], _ => exact ⟨_, _, rfl⟩
    have HM5 : Aside0 (w5.heap[g + 1]? = some (.cells #[.int .i64 1, .int .i64 x0, .int .i64 x1, .int .i64 x2, .int .i64 y40, .int .i64 y41, .int .i64 0, .bool false, .slice none 0 0, .int .i64 0, .int .i64 0, .slice none 0 0, .string ⟨#[]⟩] 27 (0, 0))) := ⟨hM⟩
    have HRAW : Aside0 (rawP l = ((⟨1, x0, x1, x2, y40, y41, 0, false, [], 0, 0, [], ⟨#[]⟩⟩ : M13), l5, b5)) := ⟨hrw⟩
    have HR5 := Aside0.mk hR
    have HB5 := Aside0.mk hB
    have HBY5 := Aside0.mk hby
    clear hR hM hK hB hK' hby hr hl3 hrw HR4 HM4 HZ4 HB4 HBY4 HG4
    go_upto_region 20 with (fail)
    have HRT := HR5
    have HMT : Aside0 (w5.heap[g + 1]? = some (.cells (mcells (⟨1, x0, x1, x2, y40, y41, 0, false, [], 0, 0, [], ⟨#[]⟩⟩ : M13) (.slice none 0 0) (.slice none 0 0)) 27 (0, 0))) := ⟨HM5.out⟩
    have HZT := HZ5
    have HBT := HB5
    have HE8 : Aside0 (k46.R 46 w5 w.heap.size (fun k => g + 1 < k) (.slice none 0 0) (⟨1, x0, x1, x2, y40, y41, 0, false, [], 0, 0, [], ⟨#[]⟩⟩ : M13).es) := ⟨Kd.R_nil _ _ _ _ _⟩
    have HS11 : Aside0 ((Kd.int .i64).R 3 w5 w.heap.size (fun k => g + 1 < k) (.slice none 0 0) (⟨1, x0, x1, x2, y40, y41, 0, false, [], 0, 0, [], ⟨#[]⟩⟩ : M13).sm) := ⟨Kd.R_nil _ _ _ _ _⟩
    have HRAWT := HRAW
    obtain ⟨lt, hlt⟩ : ∃ lt, lt = l5 := ⟨_, rfl⟩
    obtain ⟨bt, hbt⟩ : ∃ bt, bt = b5 := ⟨_, rfl⟩
    obtain ⟨W, hW⟩ : ∃ W, W = w5 := ⟨_, rfl⟩
    rw [← hlt, ← hbt] at HRT HRAWT
    rw [← hW] at HRT HMT HZT HBT HE8 HS11 ⊢
    have HME := ()
    clear hW hlt hbt HRAW HR5 HM5 HZ5 HB5 HBY5
    obtain ⟨A', n', c', hb', hn', hc', _, _⟩ := HRT.out
    have t0 : W.cell? ⟨g, 0, none⟩ = some (.slice A' n' c') := blk_cell hb' 0
    have t1 : W.cell? ⟨g, 1, none⟩ = some (.bool bt) := blk_cell hb' 1
    obtain ⟨m, hme⟩ : ∃ m : M13, m = (⟨1, x0, x1, x2, y40, y41, 0, false, [], 0, 0, [], ⟨#[]⟩⟩ : M13) := ⟨_, rfl⟩
    rw [← hme] at HMT HE8 HS11 HRAWT
    have hf1 : m.fr = x0 := by rw [hme]
    have hf2 : m.tt = x1 := by rw [hme]
    have t2 : W.cell? ⟨g + 1, 1, none⟩ = some (.int .i64 x0) := by rw [← hf1]; exact blk_cell HMT.out 1
    have t3 : W.cell? ⟨g + 1, 2, none⟩ = some (.int .i64 x1) := by rw [← hf2]; exact blk_cell HMT.out 2
    have HN' := Aside0.mk hn'
    have HF1 := Aside0.mk hf1
    have HF2 := Aside0.mk hf2
    clear hb' hn' hc' hf1 hf2 hme HME
    cases bt
    · by_cases c2 : n' = 0
      · subst c2
        have hlt : lt = [] := List.eq_nil_of_length_eq_zero HN'.out.symm
        cases c3 : isNode x0
        · obtain rfl : q = none := by rw [HQ.out, HRAWT.out]; exact if_pos (.inr (.inr (.inl (by show isNode m.fr = false; rw [HF1.out]; exact c3))))
          clear HQ HRAWT
          go_wp2_with fail
          refine (node_calls x0 W).mono ?_
          rintro e w6 ⟨rfl, md, hw6⟩
          rw [c3]
          have HZ6 : Aside0 (w6.heap[w.heap.size]? = some (.cells (mcells M0 (.slice none 0 0) (.slice none 0 0)) 27 (0, 0))) := ⟨by rw [hw6]; exact HZT.out⟩
          have HM6 : Aside0 (w6.heap[g + 1]? = some (.cells (mcells m (.slice none 0 0) (.slice none 0 0)) 27 (0, 0))) := ⟨by rw [hw6]; exact HMT.out⟩
          have HB6 : Aside0 (Below w.heap.size w w6) := ⟨by rw [hw6]; exact pw_below_drewN HBT.out md⟩
          have HK6 : Aside0 (Kept W w6 (fun k => k = w.heap.size)) := ⟨by rw [hw6]; exact (Kept.refl _ _).drewN md⟩
          have t6 : w6.cell? ⟨g + 1, 2, none⟩ = some (.int .i64 x1) := by rw [hw6]; exact t3
          clear hw6
          go_wp2_with (refine wpList_store_row rfl 27 _ _ rfl w.heap.size #[.int .i64 0, .int .i64 0, .int .i64 0, .int .i64 0, .int .i64 0, .int .i64 0, .int .i64 0, .bool false, .slice none 0 0, .int .i64 0, .int .i64 0, .slice none 0 0, .string ⟨#[]⟩] rfl rfl 27 _ HZ6.out size_msg rfl (one_cells M0 none 0 0 none 0 0) ?_)

          exact bodyPost_ret (results_two rfl _ _ w.heap.size 27 #[.int .i64 0, .int .i64 0, .int .i64 0, .int .i64 0, .int .i64 0, .int .i64 0, .int .i64 0, .bool false, .slice none 0 0, .int .i64 0, .int .i64 0, .slice none 0 0, .string ⟨#[]⟩] (0, 0) (.int .i64 7) rfl rfl (setRow_heap _ _ _ _ _ _ HZ6.out) Try.underlying27 size_msg) rfl (decQ_none (below_setRow HB6.out (Nat.le_refl _) _))
        cases c4 : isNode x1
        · obtain rfl : q = none := by rw [HQ.out, HRAWT.out]; exact if_pos (.inr (.inr (.inr (by show isNode m.tt = false; rw [HF2.out]; exact c4))))
          clear HQ HRAWT
          go_wp2_with fail
          refine (node_calls x0 W).mono ?_
          rintro e w6 ⟨rfl, md, hw6⟩
          rw [c3]
          have HZ6 : Aside0 (w6.heap[w.heap.size]? = some (.cells (mcells M0 (.slice none 0 0) (.slice none 0 0)) 27 (0, 0))) := ⟨by rw [hw6]; exact HZT.out⟩
          have HM6 : Aside0 (w6.heap[g + 1]? = some (.cells (mcells m (.slice none 0 0) (.slice none 0 0)) 27 (0, 0))) := ⟨by rw [hw6]; exact HMT.out⟩
          have HB6 : Aside0 (Below w.heap.size w w6) := ⟨by rw [hw6]; exact pw_below_drewN HBT.out md⟩
          have HK6 : Aside0 (Kept W w6 (fun k => k = w.heap.size)) := ⟨by rw [hw6]; exact (Kept.refl _ _).drewN md⟩
          have t6 : w6.cell? ⟨g + 1, 2, none⟩ = some (.int .i64 x1) := by rw [hw6]; exact t3
          clear hw6
          go_wp2_with fail
          refine (node_calls x1 w6).mono ?_
          rintro e w7 ⟨rfl, md, hw7⟩
          rw [c4]
          have HZ7 : Aside0 (w7.heap[w.heap.size]? = some (.cells (mcells M0 (.slice none 0 0) (.slice none 0 0)) 27 (0, 0))) := ⟨by rw [hw7]; exact HZ6.out⟩
          have HM7 : Aside0 (w7.heap[g + 1]? = some (.cells (mcells m (.slice none 0 0) (.slice none 0 0)) 27 (0, 0))) := ⟨by rw [hw7]; exact HM6.out⟩
          have HB7 : Aside0 (Below w.heap.size w w7) := ⟨by rw [hw7]; exact pw_below_drewN HB6.out md⟩
          have HK7 : Aside0 (Kept W w7 (fun k => k = w.heap.size)) := ⟨by rw [hw7]; exact HK6.out.drewN md⟩
          clear hw7
          go_wp2_with (refine wpList_store_row rfl 27 _ _ rfl w.heap.size #[.int .i64 0, .int .i64 0, .int .i64 0, .int .i64 0, .int .i64 0, .int .i64 0, .int .i64 0, .bool false, .slice none 0 0, .int .i64 0, .int .i64 0, .slice none 0 0, .string ⟨#[]⟩] rfl rfl 27 _ HZ7.out size_msg rfl (one_cells M0 none 0 0 none 0 0) ?_)

          exact bodyPost_ret (results_two rfl _ _ w.heap.size 27 #[.int .i64 0, .int .i64 0, .int .i64 0, .int .i64 0, .int .i64 0, .int .i64 0, .int .i64 0, .bool false, .slice none 0 0, .int .i64 0, .int .i64 0, .slice none 0 0, .string ⟨#[]⟩] (0, 0) (.int .i64 7) rfl rfl (setRow_heap _ _ _ _ _ _ HZ7.out) Try.underlying27 size_msg) rfl (decQ_none (below_setRow HB7.out (Nat.le_refl _) _))
        · obtain rfl : q = some m := by
            rw [HQ.out, HRAWT.out]
            exact if_neg (by show ¬ (false = true ∨ lt ≠ [] ∨ isNode m.fr = false ∨ isNode m.tt = false); rw [HF1.out, HF2.out, c3, c4, hlt]; simp)
          clear HQ HRAWT
          go_wp2_with fail
          refine (node_calls x0 W).mono ?_
          rintro e w6 ⟨rfl, md, hw6⟩
          rw [c3]
          have HZ6 : Aside0 (w6.heap[w.heap.size]? = some (.cells (mcells M0 (.slice none 0 0) (.slice none 0 0)) 27 (0, 0))) := ⟨by rw [hw6]; exact HZT.out⟩
          have HM6 : Aside0 (w6.heap[g + 1]? = some (.cells (mcells m (.slice none 0 0) (.slice none 0 0)) 27 (0, 0))) := ⟨by rw [hw6]; exact HMT.out⟩
          have HB6 : Aside0 (Below w.heap.size w w6) := ⟨by rw [hw6]; exact pw_below_drewN HBT.out md⟩
          have HK6 : Aside0 (Kept W w6 (fun k => k = w.heap.size)) := ⟨by rw [hw6]; exact (Kept.refl _ _).drewN md⟩
          have t6 : w6.cell? ⟨g + 1, 2, none⟩ = some (.int .i64 x1) := by rw [hw6]; exact t3
          clear hw6
          go_wp2_with fail
          refine (node_calls x1 w6).mono ?_
          rintro e w7 ⟨rfl, md, hw7⟩
          rw [c4]
          have HZ7 : Aside0 (w7.heap[w.heap.size]? = some (.cells (mcells M0 (.slice none 0 0) (.slice none 0 0)) 27 (0, 0))) := ⟨by rw [hw7]; exact HZ6.out⟩
          have HM7 : Aside0 (w7.heap[g + 1]? = some (.cells (mcells m (.slice none 0 0) (.slice none 0 0)) 27 (0, 0))) := ⟨by rw [hw7]; exact HM6.out⟩
          have HB7 : Aside0 (Below w.heap.size w w7) := ⟨by rw [hw7]; exact pw_below_drewN HB6.out md⟩
          have HK7 : Aside0 (Kept W w7 (fun k => k = w.heap.size)) := ⟨by rw [hw7]; exact HK6.out.drewN md⟩
          clear hw7
          go_wp2_with (first
            | refine wpList_load_row rfl 27 _ rfl (g + 1) rfl 27 (mcells m (.slice none 0 0) (.slice none 0 0)) (0, 0) _ HM7.out Try.underlying27 rfl size_msg ?_
            | refine wpList_store_row rfl 27 _ _ rfl w.heap.size (mcells m (.slice none 0 0) (.slice none 0 0)) rfl rfl 27 _ HZ7.out size_msg rfl (one_cells _ _ _ _ _ _ _) ?_)

          exact bodyPost_ret (results_two rfl _ _ w.heap.size 27 (mcells m (.slice none 0 0) (.slice none 0 0)) (0, 0) (.int .i64 0) rfl rfl (setRow_heap _ _ _ _ _ _ HZ7.out) Try.underlying27 size_msg) rfl (decQ_some HE8.out HS11.out (HK7.out.then_ (kept_setRow _ _ _) (fun _ h => .inl h)) (by have := HGG.out; omega) (below_setRow HB7.out (Nat.le_refl _) _))
      · have c2' : 0 < n' := by omega
        obtain rfl : q = none := by rw [HQ.out, HRAWT.out]; exact if_pos (.inr (.inl (by show lt ≠ []; intro he; rw [he] at HN'; exact c2 HN'.out)))
        clear HQ HRAWT
        go_wp2_with (refine wpList_store_row rfl 27 _ _ rfl w.heap.size #[.int .i64 0, .int .i64 0, .int .i64 0, .int .i64 0, .int .i64 0, .int .i64 0, .int .i64 0, .bool false, .slice none 0 0, .int .i64 0, .int .i64 0, .slice none 0 0, .string ⟨#[]⟩] rfl rfl 27 _ HZT.out size_msg rfl (one_cells M0 none 0 0 none 0 0) ?_)

        exact bodyPost_ret (results_two rfl _ _ w.heap.size 27 #[.int .i64 0, .int .i64 0, .int .i64 0, .int .i64 0, .int .i64 0, .int .i64 0, .int .i64 0, .bool false, .slice none 0 0, .int .i64 0, .int .i64 0, .slice none 0 0, .string ⟨#[]⟩] (0, 0) (.int .i64 7) rfl rfl (setRow_heap _ _ _ _ _ _ HZT.out) Try.underlying27 size_msg) rfl (decQ_none (below_setRow HBT.out (Nat.le_refl _) _))
    · obtain rfl : q = none := by rw [HQ.out, HRAWT.out]; exact if_pos (.inl rfl)
      clear HQ HRAWT
      go_wp2_with (refine wpList_store_row rfl 27 _ _ rfl w.heap.size #[.int .i64 0, .int .i64 0, .int .i64 0, .int .i64 0, .int .i64 0, .int .i64 0, .int .i64 0, .bool false, .slice none 0 0, .int .i64 0, .int .i64 0, .slice none 0 0, .string ⟨#[]⟩] rfl rfl 27 _ HZT.out size_msg rfl (one_cells M0 none 0 0 none 0 0) ?_)

      exact bodyPost_ret (results_two rfl _ _ w.heap.size 27 #[.int .i64 0, .int .i64 0, .int .i64 0, .int .i64 0, .int .i64 0, .int .i64 0, .int .i64 0, .bool false, .slice none 0 0, .int .i64 0, .int .i64 0, .slice none 0 0, .string ⟨#[]⟩] (0, 0) (.int .i64 7) rfl rfl (setRow_heap _ _ _ _ _ _ HZT.out) Try.underlying27 size_msg) rfl (decQ_none (below_setRow HBT.out (Nat.le_refl _) _))
  · subst hk
    go_wp2_with fail
    refine (rnum_calls w w4 g l4 b4 1 1 HB4.out HG.out HR4.out HBY4.out (by decide) (by decide)).mono ?_
    rintro e u5 ⟨rfl, hR, hK, hB⟩
    have hby := numP_left (bad := b4) (n := 1) (m := 1) HBY4.out
    have hrw := HRAW.out
    rw [bodyP_2] at hrw
    obtain ⟨r, hr⟩ : ∃ r, r = numP l4 b4 1 1 := ⟨_, rfl⟩
    rw [← hr] at hR ⊢ hby hrw
    obtain ⟨v, l5, b5⟩ := r
    have hM := blk_kept HM4.out hK (by show ¬ (g + 1 = g); omega)
    have hZ := blk_kept HZ4.out hK (by have := HZ.out; show ¬ (w.heap.size = g); omega)
    have f_ := blk_frozen hM 7
    have m_ : u5.cell? ⟨g + 1, 7, none⟩ = some (.bool false) := blk_cell hM 7
    have HM5 := Aside0.mk (blk_set hM 7 (.bool ((v : Int) == 1)))
    have HZ5 : Aside0 ((u5.setCell ⟨g + 1, 7, none⟩ (.bool ((v : Int) == 1))).heap[w.heap.size]? = _) := ⟨blk_far hZ (p := ⟨g + 1, 7, none⟩) HZ.out.1 _⟩
    have HR5 : Aside0 (Rd w (u5.setCell ⟨g + 1, 7, none⟩ (.bool ((v : Int) == 1))) g l5 b5) := ⟨hR.kept (S := fun k => k = g + 1) (Kept.setCell (S := fun k => k = g + 1) (p := ⟨g + 1, 7, none⟩) (Kept.refl _ _) (.inl rfl) _) (by show ¬ (g = g + 1); omega)⟩
    have HB5 : Aside0 (Below w.heap.size w (u5.setCell ⟨g + 1, 7, none⟩ (.bool ((v : Int) == 1)))) := ⟨hB.setCell (p := ⟨g + 1, 7, none⟩) (by show w.heap.size ≤ g + 1; have := HG.out; omega) _⟩
    have HG5 : Aside0 (g + 1 < (u5.setCell ⟨g + 1, 7, none⟩ (.bool ((v : Int) == 1))).heap.size) := ⟨by have := Nat.lt_of_lt_of_le HG4.out hK.1; simpa using this⟩
    have HBY5 := Aside0.mk hby
    have HRAW : Aside0 (rawP l = ((⟨2, x0, x1, x2, 0, 0, 0, ((v : Int) == 1), [], 0, 0, [], ⟨#[]⟩⟩ : M13), l5, b5)) := ⟨hrw⟩
    clear hR hM hK hB hZ hby hr hrw HR4 HM4 HZ4 HB4 HBY4
    go_upto_region 20 with (fail)
    obtain ⟨w5, hw⟩ : ∃ w5, w5 = u5.setCell ⟨g + 1, 7, none⟩ (.bool ((v : Int) == 1)) := ⟨_, rfl⟩
    rw [← hw] at HM5 HZ5 HR5 HB5 HG5 ⊢
    clear hw f_ m_ HG4
    go_upto_region 20 with (fail)
    have HRT := HR5
    have HMT : Aside0 (w5.heap[g + 1]? = some (.cells (mcells (⟨2, x0, x1, x2, 0, 0, 0, ((v : Int) == 1), [], 0, 0, [], ⟨#[]⟩⟩ : M13) (.slice none 0 0) (.slice none 0 0)) 27 (0, 0))) := ⟨HM5.out⟩
    have HZT := HZ5
    have HBT := HB5
    have HE8 : Aside0 (k46.R 46 w5 w.heap.size (fun k => g + 1 < k) (.slice none 0 0) (⟨2, x0, x1, x2, 0, 0, 0, ((v : Int) == 1), [], 0, 0, [], ⟨#[]⟩⟩ : M13).es) := ⟨Kd.R_nil _ _ _ _ _⟩
    have HS11 : Aside0 ((Kd.int .i64).R 3 w5 w.heap.size (fun k => g + 1 < k) (.slice none 0 0) (⟨2, x0, x1, x2, 0, 0, 0, ((v : Int) == 1), [], 0, 0, [], ⟨#[]⟩⟩ : M13).sm) := ⟨Kd.R_nil _ _ _ _ _⟩
    have HRAWT := HRAW
    obtain ⟨lt, hlt⟩ : ∃ lt, lt = l5 := ⟨_, rfl⟩
    obtain ⟨bt, hbt⟩ : ∃ bt, bt = b5 := ⟨_, rfl⟩
    obtain ⟨W, hW⟩ : ∃ W, W = w5 := ⟨_, rfl⟩
    rw [← hlt, ← hbt] at HRT HRAWT
    rw [← hW] at HRT HMT HZT HBT HE8 HS11 ⊢
    have HME := ()
    clear hW hlt hbt HRAW HR5 HM5 HZ5 HB5 HBY5
    obtain ⟨A', n', c', hb', hn', hc', _, _⟩ := HRT.out
    have t0 : W.cell? ⟨g, 0, none⟩ = some (.slice A' n' c') := blk_cell hb' 0
    have t1 : W.cell? ⟨g, 1, none⟩ = some (.bool bt) := blk_cell hb' 1
    obtain ⟨m, hme⟩ : ∃ m : M13, m = (⟨2, x0, x1, x2, 0, 0, 0, ((v : Int) == 1), [], 0, 0, [], ⟨#[]⟩⟩ : M13) := ⟨_, rfl⟩
    rw [← hme] at HMT HE8 HS11 HRAWT
    have hf1 : m.fr = x0 := by rw [hme]
    have hf2 : m.tt = x1 := by rw [hme]
    have t2 : W.cell? ⟨g + 1, 1, none⟩ = some (.int .i64 x0) := by rw [← hf1]; exact blk_cell HMT.out 1
    have t3 : W.cell? ⟨g + 1, 2, none⟩ = some (.int .i64 x1) := by rw [← hf2]; exact blk_cell HMT.out 2
    have HN' := Aside0.mk hn'
    have HF1 := Aside0.mk hf1
    have HF2 := Aside0.mk hf2
    clear hb' hn' hc' hf1 hf2 hme HME
    cases bt
    · by_cases c2 : n' = 0
      · subst c2
        have hlt : lt = [] := List.eq_nil_of_length_eq_zero HN'.out.symm
        cases c3 : isNode x0
        · obtain rfl : q = none := by rw [HQ.out, HRAWT.out]; exact if_pos (.inr (.inr (.inl (by show isNode m.fr = false; rw [HF1.out]; exact c3))))
          clear HQ HRAWT
          go_wp2_with fail
          refine (node_calls x0 W).mono ?_
          rintro e w6 ⟨rfl, md, hw6⟩
          rw [c3]
          have HZ6 : Aside0 (w6.heap[w.heap.size]? = some (.cells (mcells M0 (.slice none 0 0) (.slice none 0 0)) 27 (0, 0))) := ⟨by rw [hw6]; exact HZT.out⟩
          have HM6 : Aside0 (w6.heap[g + 1]? = some (.cells (mcells m (.slice none 0 0) (.slice none 0 0)) 27 (0, 0))) := ⟨by rw [hw6]; exact HMT.out⟩
          have HB6 : Aside0 (Below w.heap.size w w6) := ⟨by rw [hw6]; exact pw_below_drewN HBT.out md⟩
          have HK6 : Aside0 (Kept W w6 (fun k => k = w.heap.size)) := ⟨by rw [hw6]; exact (Kept.refl _ _).drewN md⟩
          have t6 : w6.cell? ⟨g + 1, 2, none⟩ = some (.int .i64 x1) := by rw [hw6]; exact t3
          clear hw6
          go_wp2_with (refine wpList_store_row rfl 27 _ _ rfl w.heap.size #[.int .i64 0, .int .i64 0, .int .i64 0, .int .i64 0, .int .i64 0, .int .i64 0, .int .i64 0, .bool false, .slice none 0 0, .int .i64 0, .int .i64 0, .slice none 0 0, .string ⟨#[]⟩] rfl rfl 27 _ HZ6.out size_msg rfl (one_cells M0 none 0 0 none 0 0) ?_)

          exact bodyPost_ret (results_two rfl _ _ w.heap.size 27 #[.int .i64 0, .int .i64 0, .int .i64 0, .int .i64 0, .int .i64 0, .int .i64 0, .int .i64 0, .bool false, .slice none 0 0, .int .i64 0, .int .i64 0, .slice none 0 0, .string ⟨#[]⟩] (0, 0) (.int .i64 7) rfl rfl (setRow_heap _ _ _ _ _ _ HZ6.out) Try.underlying27 size_msg) rfl (decQ_none (below_setRow HB6.out (Nat.le_refl _) _))
        cases c4 : isNode x1
        · obtain rfl : q = none := by rw [HQ.out, HRAWT.out]; exact if_pos (.inr (.inr (.inr (by show isNode m.tt = false; rw [HF2.out]; exact c4))))
          clear HQ HRAWT
          go_wp2_with fail
          refine (node_calls x0 W).mono ?_
          rintro e w6 ⟨rfl, md, hw6⟩
          rw [c3]
          have HZ6 : Aside0 (w6.heap[w.heap.size]? = some (.cells (mcells M0 (.slice none 0 0) (.slice none 0 0)) 27 (0, 0))) := ⟨by rw [hw6]; exact HZT.out⟩
          have HM6 : Aside0 (w6.heap[g + 1]? = some (.cells (mcells m (.slice none 0 0) (.slice none 0 0)) 27 (0, 0))) := ⟨by rw [hw6]; exact HMT.out⟩
          have HB6 : Aside0 (Below w.heap.size w w6) := ⟨by rw [hw6]; exact pw_below_drewN HBT.out md⟩
          have HK6 : Aside0 (Kept W w6 (fun k => k = w.heap.size)) := ⟨by rw [hw6]; exact (Kept.refl _ _).drewN md⟩
          have t6 : w6.cell? ⟨g + 1, 2, none⟩ = some (.int .i64 x1) := by rw [hw6]; exact t3
          clear hw6
          go_wp2_with fail
          refine (node_calls x1 w6).mono ?_
          rintro e w7 ⟨rfl, md, hw7⟩
          rw [c4]
          have HZ7 : Aside0 (w7.heap[w.heap.size]? = some (.cells (mcells M0 (.slice none 0 0) (.slice none 0 0)) 27 (0, 0))) := ⟨by rw [hw7]; exact HZ6.out⟩
          have HM7 : Aside0 (w7.heap[g + 1]? = some (.cells (mcells m (.slice none 0 0) (.slice none 0 0)) 27 (0, 0))) := ⟨by rw [hw7]; exact HM6.out⟩
          have HB7 : Aside0 (Below w.heap.size w w7) := ⟨by rw [hw7]; exact pw_below_drewN HB6.out md⟩
          have HK7 : Aside0 (Kept W w7 (fun k => k = w.heap.size)) := ⟨by rw [hw7]; exact HK6.out.drewN md⟩
          clear hw7
          go_wp2_with (refine wpList_store_row rfl 27 _ _ rfl w.heap.size #[.int .i64 0, .int .i64 0, .int .i64 0, .int .i64 0, .int .i64 0, .int .i64 0, .int .i64 0, .bool false, .slice none 0 0, .int .i64 0, .int .i64 0, .slice none 0 0, .string ⟨#[]⟩] rfl rfl 27 _ HZ7.out size_msg rfl (one_cells M0 none 0 0 none 0 0) ?_)

          exact bodyPost_ret (results_two rfl _ _ w.heap.size 27 #[.int .i64 0, .int .i64 0, .int .i64 0, .int .i64 0, .int .i64 0, .int .i64 0, .int .i64 0, .bool false, .slice none 0 0, .int .i64 0, .int .i64 0, .slice none 0 0, .string ⟨#[]⟩] (0, 0) (.int .i64 7) rfl rfl (setRow_heap _ _ _ _ _ _ HZ7.out) Try.underlying27 size_msg) rfl (decQ_none (below_setRow HB7.out (Nat.le_refl _) _))
        · obtain rfl : q = some m := by
            rw [HQ.out, HRAWT.out]
            exact if_neg (by show ¬ (false = true ∨ lt ≠ [] ∨ isNode m.fr = false ∨ isNode m.tt = false); rw [HF1.out, HF2.out, c3, c4, hlt]; simp)
          clear HQ HRAWT
          go_wp2_with fail
          refine (node_calls x0 W).mono ?_
          rintro e w6 ⟨rfl, md, hw6⟩
          rw [c3]
          have HZ6 : Aside0 (w6.heap[w.heap.size]? = some (.cells (mcells M0 (.slice none 0 0) (.slice none 0 0)) 27 (0, 0))) := ⟨by rw [hw6]; exact HZT.out⟩
          have HM6 : Aside0 (w6.heap[g + 1]? = some (.cells (mcells m (.slice none 0 0) (.slice none 0 0)) 27 (0, 0))) := ⟨by rw [hw6]; exact HMT.out⟩
          have HB6 : Aside0 (Below w.heap.size w w6) := ⟨by rw [hw6]; exact pw_below_drewN HBT.out md⟩
          have HK6 : Aside0 (Kept W w6 (fun k => k = w.heap.size)) := ⟨by rw [hw6]; exact (Kept.refl _ _).drewN md⟩
          have t6 : w6.cell? ⟨g + 1, 2, none⟩ = some (.int .i64 x1) := by rw [hw6]; exact t3
          clear hw6
          go_wp2_with fail
          refine (node_calls x1 w6).mono ?_
          rintro e w7 ⟨rfl, md, hw7⟩
          rw [c4]
          have HZ7 : Aside0 (w7.heap[w.heap.size]? = some (.cells (mcells M0 (.slice none 0 0) (.slice none 0 0)) 27 (0, 0))) := ⟨by rw [hw7]; exact HZ6.out⟩
          have HM7 : Aside0 (w7.heap[g + 1]? = some (.cells (mcells m (.slice none 0 0) (.slice none 0 0)) 27 (0, 0))) := ⟨by rw [hw7]; exact HM6.out⟩
          have HB7 : Aside0 (Below w.heap.size w w7) := ⟨by rw [hw7]; exact pw_below_drewN HB6.out md⟩
          have HK7 : Aside0 (Kept W w7 (fun k => k = w.heap.size)) := ⟨by rw [hw7]; exact HK6.out.drewN md⟩
          clear hw7
          go_wp2_with (first
            | refine wpList_load_row rfl 27 _ rfl (g + 1) rfl 27 (mcells m (.slice none 0 0) (.slice none 0 0)) (0, 0) _ HM7.out Try.underlying27 rfl size_msg ?_
            | refine wpList_store_row rfl 27 _ _ rfl w.heap.size (mcells m (.slice none 0 0) (.slice none 0 0)) rfl rfl 27 _ HZ7.out size_msg rfl (one_cells _ _ _ _ _ _ _) ?_)

          exact bodyPost_ret (results_two rfl _ _ w.heap.size 27 (mcells m (.slice none 0 0) (.slice none 0 0)) (0, 0) (.int .i64 0) rfl rfl (setRow_heap _ _ _ _ _ _ HZ7.out) Try.underlying27 size_msg) rfl (decQ_some HE8.out HS11.out (HK7.out.then_ (kept_setRow _ _ _) (fun _ h => .inl h)) (by have := HGG.out; omega) (below_setRow HB7.out (Nat.le_refl _) _))
      · have c2' : 0 < n' := by omega
        obtain rfl : q = none := by rw [HQ.out, HRAWT.out]; exact if_pos (.inr (.inl (by show lt ≠ []; intro he; rw [he] at HN'; exact c2 HN'.out)))
        clear HQ HRAWT
        go_wp2_with (refine wpList_store_row rfl 27 _ _ rfl w.heap.size #[.int .i64 0, .int .i64 0, .int .i64 0, .int .i64 0, .int .i64 0, .int .i64 0, .int .i64 0, .bool false, .slice none 0 0, .int .i64 0, .int .i64 0, .slice none 0 0, .string ⟨#[]⟩] rfl rfl 27 _ HZT.out size_msg rfl (one_cells M0 none 0 0 none 0 0) ?_)

        exact bodyPost_ret (results_two rfl _ _ w.heap.size 27 #[.int .i64 0, .int .i64 0, .int .i64 0, .int .i64 0, .int .i64 0, .int .i64 0, .int .i64 0, .bool false, .slice none 0 0, .int .i64 0, .int .i64 0, .slice none 0 0, .string ⟨#[]⟩] (0, 0) (.int .i64 7) rfl rfl (setRow_heap _ _ _ _ _ _ HZT.out) Try.underlying27 size_msg) rfl (decQ_none (below_setRow HBT.out (Nat.le_refl _) _))
    · obtain rfl : q = none := by rw [HQ.out, HRAWT.out]; exact if_pos (.inl rfl)
      clear HQ HRAWT
      go_wp2_with (refine wpList_store_row rfl 27 _ _ rfl w.heap.size #[.int .i64 0, .int .i64 0, .int .i64 0, .int .i64 0, .int .i64 0, .int .i64 0, .int .i64 0, .bool false, .slice none 0 0, .int .i64 0, .int .i64 0, .slice none 0 0, .string ⟨#[]⟩] rfl rfl 27 _ HZT.out size_msg rfl (one_cells M0 none 0 0 none 0 0) ?_)

      exact bodyPost_ret (results_two rfl _ _ w.heap.size 27 #[.int .i64 0, .int .i64 0, .int .i64 0, .int .i64 0, .int .i64 0, .int .i64 0, .int .i64 0, .bool false, .slice none 0 0, .int .i64 0, .int .i64 0, .slice none 0 0, .string ⟨#[]⟩] (0, 0) (.int .i64 7) rfl rfl (setRow_heap _ _ _ _ _ _ HZT.out) Try.underlying27 size_msg) rfl (decQ_none (below_setRow HBT.out (Nat.le_refl _) _))
  · subst hk
    go_wp2_with fail
    refine (rints_calls w _ g l4 b4 w4.heap.size (g + 1) 4 3 _ 27 (HB4.out.alloc HB4.out.size _) HG.out (by have := HG.out; omega) (HR4.out.kept (S := fun _ => False) ((Kept.refl _ _).alloc _) (fun h => h)) HBY4.out (by decide) (blk_alloc HM4.out _) (blk_new w4 (.cells (ptrs (g + 1) 4 3) 68)) (by omega) (by have := HG4.out; omega) (by have := HG4.out; omega) (fun i hi => ?_)).mono ?_
    · have : i = 0 ∨ i = 1 ∨ i = 2 := by omega
      rcases this with rfl | rfl | rfl <;> exact ⟨_, rfl⟩
    rintro e w5 ⟨rfl, hR, hM, hK, hB⟩
    have hK' : Kept w4 w5 (fun k => k = g ∨ k = g + 1) := ((Kept.refl w4 (fun k => k = g ∨ k = g + 1)).alloc _).then_ hK (fun k hk => .inl hk)
    have HZ5 := Aside0.mk (blk_kept HZ4.out hK' (by have := HZ.out; simp; omega))
    have HG5 : Aside0 (g + 1 < w5.heap.size) := ⟨Nat.lt_of_lt_of_le HG4.out hK'.1⟩
    have hby := intsP_left (bad := b4) HBY4.out 3
    obtain ⟨r, hr⟩ : ∃ r, r = intsP l4 b4 3 := ⟨_, rfl⟩
    have hl3 : r.1.length = 3 := by rw [hr]; exact intsP_length _ _ _
    have hrw := HRAW.out
    rw [bodyP_3] at hrw
    rw [← hr] at hR hM hby hrw
    obtain ⟨vs, l5, b5⟩ := r
    obtain ⟨y40, y41, y42, rfl⟩ : ∃ y40 y41 y42, vs = [y40, y41, y42] := by
      match vs, hl3 with
      | [y40, y41, y42], _ => exact ⟨_, _, _, rfl⟩
    have HM5 : Aside0 (w5.heap[g + 1]? = some (.cells #[.int .i64 3, .int .i64 x0, .int .i64 x1, .int .i64 x2, .int .i64 y40, .int .i64 y41, .int .i64 y42, .bool false, .slice none 0 0, .int .i64 0, .int .i64 0, .slice none 0 0, .string ⟨#[]⟩] 27 (0, 0))) := ⟨hM⟩
    have HRAW : Aside0 (rawP l = ((⟨3, x0, x1, x2, y40, y41, y42, false, (entP l5 b5).1, 0, 0, [], ⟨#[]⟩⟩ : M13), (entP l5 b5).2)) := ⟨hrw⟩
    have HR5 := Aside0.mk hR
    have HB5 := Aside0.mk hB
    have HBY5 := Aside0.mk hby
    clear hR hM hK hB hK' hby hr hl3 hrw HR4 HM4 HZ4 HB4 HBY4 HG4
    go_wp2_with fail
    refine (rent_calls w w5 g l5 b5 HB5.out HG.out HR5.out HBY5.out).mono ?_
    rintro e u6 ⟨v8, rfl, hV, hR, hK, hB⟩
    have hby := entP_left (bad := b5) HBY5.out
    have hrw := HRAW.out
    obtain ⟨r, hr⟩ : ∃ r, r = entP l5 b5 := ⟨_, rfl⟩
    rw [← hr] at hR hV hby hrw
    obtain ⟨es, l6, b6⟩ := r
    obtain ⟨A8, c8, hv8⟩ := Kd.R_slice hV
    obtain ⟨n8, hn8⟩ : ∃ n8, n8 = (es, l6, b6).1.length := ⟨_, rfl⟩
    rw [← hn8] at hv8
    subst hv8
    clear hn8
    have hM := blk_kept HM5.out hK (by show ¬ (g + 1 = g); omega)
    have hZ := blk_kept HZ5.out hK (by have := HZ.out; show ¬ (w.heap.size = g); omega)
    have f_ := blk_frozen hM 8
    have m_ : u6.cell? ⟨g + 1, 8, none⟩ = some (.slice none 0 0) := blk_cell hM 8
    have HM6 := Aside0.mk (blk_set hM 8 (.slice A8 n8 c8))
    have HZ6 : Aside0 ((u6.setCell ⟨g + 1, 8, none⟩ (.slice A8 n8 c8)).heap[w.heap.size]? = _) := ⟨blk_far hZ (p := ⟨g + 1, 8, none⟩) HZ.out.1 _⟩
    have HR6 : Aside0 (Rd w (u6.setCell ⟨g + 1, 8, none⟩ (.slice A8 n8 c8)) g l6 b6) := ⟨hR.kept (S := fun k => k = g + 1) (Kept.setCell (S := fun k => k = g + 1) (p := ⟨g + 1, 8, none⟩) (Kept.refl _ _) (.inl rfl) _) (by show ¬ (g = g + 1); omega)⟩
    have HB6 : Aside0 (Below w.heap.size w (u6.setCell ⟨g + 1, 8, none⟩ (.slice A8 n8 c8))) := ⟨hB.setCell (p := ⟨g + 1, 8, none⟩) (by show w.heap.size ≤ g + 1; have := HG.out; omega) _⟩
    have HG6 : Aside0 (g + 1 < (u6.setCell ⟨g + 1, 8, none⟩ (.slice A8 n8 c8)).heap.size) := ⟨by have := Nat.lt_of_lt_of_le HG5.out hK.1; simpa using this⟩
    have HBY6 := Aside0.mk hby
    have HRAW : Aside0 (rawP l = ((⟨3, x0, x1, x2, y40, y41, y42, false, es, 0, 0, [], ⟨#[]⟩⟩ : M13), l6, b6)) := ⟨hrw⟩
    have HE6 : Aside0 (k46.R 46 (u6.setCell ⟨g + 1, 8, none⟩ (.slice A8 n8 c8)) w.heap.size (fun k => g + 1 < k) (.slice A8 n8 c8) es) := ⟨Kd.R_far (Kd.R_mono hV (fun k hk => by have := HG5.out; omega)) (p := ⟨g + 1, 8, none⟩) (fun k hk => by show k ≠ g + 1; omega) _⟩
    clear hV
    clear hR hM hK hB hZ hby hr hrw HR5 HM5 HZ5 HB5 HBY5
    go_upto_region 20 with (fail)
    obtain ⟨w6, hw⟩ : ∃ w6, w6 = u6.setCell ⟨g + 1, 8, none⟩ (.slice A8 n8 c8) := ⟨_, rfl⟩
    rw [← hw] at HM6 HZ6 HR6 HB6 HG6 HE6 ⊢
    clear hw f_ m_ HG5
    go_upto_region 20 with (fail)
    have HRT := HR6
    have HMT : Aside0 (w6.heap[g + 1]? = some (.cells (mcells (⟨3, x0, x1, x2, y40, y41, y42, false, es, 0, 0, [], ⟨#[]⟩⟩ : M13) (.slice A8 n8 c8) (.slice none 0 0)) 27 (0, 0))) := ⟨HM6.out⟩
    have HZT := HZ6
    have HBT := HB6
    have HE8 : Aside0 (k46.R 46 w6 w.heap.size (fun k => g + 1 < k) (.slice A8 n8 c8) (⟨3, x0, x1, x2, y40, y41, y42, false, es, 0, 0, [], ⟨#[]⟩⟩ : M13).es) := HE6
    have HS11 : Aside0 ((Kd.int .i64).R 3 w6 w.heap.size (fun k => g + 1 < k) (.slice none 0 0) (⟨3, x0, x1, x2, y40, y41, y42, false, es, 0, 0, [], ⟨#[]⟩⟩ : M13).sm) := ⟨Kd.R_nil _ _ _ _ _⟩
    have HRAWT := HRAW
    obtain ⟨lt, hlt⟩ : ∃ lt, lt = l6 := ⟨_, rfl⟩
    obtain ⟨bt, hbt⟩ : ∃ bt, bt = b6 := ⟨_, rfl⟩
    obtain ⟨W, hW⟩ : ∃ W, W = w6 := ⟨_, rfl⟩
    rw [← hlt, ← hbt] at HRT HRAWT
    rw [← hW] at HRT HMT HZT HBT HE8 HS11 ⊢
    have HME := ()
    clear hW hlt hbt HRAW HR6 HM6 HZ6 HB6 HBY6
    obtain ⟨A', n', c', hb', hn', hc', _, _⟩ := HRT.out
    have t0 : W.cell? ⟨g, 0, none⟩ = some (.slice A' n' c') := blk_cell hb' 0
    have t1 : W.cell? ⟨g, 1, none⟩ = some (.bool bt) := blk_cell hb' 1
    obtain ⟨m, hme⟩ : ∃ m : M13, m = (⟨3, x0, x1, x2, y40, y41, y42, false, es, 0, 0, [], ⟨#[]⟩⟩ : M13) := ⟨_, rfl⟩
    rw [← hme] at HMT HE8 HS11 HRAWT
    have hf1 : m.fr = x0 := by rw [hme]
    have hf2 : m.tt = x1 := by rw [hme]
    have t2 : W.cell? ⟨g + 1, 1, none⟩ = some (.int .i64 x0) := by rw [← hf1]; exact blk_cell HMT.out 1
    have t3 : W.cell? ⟨g + 1, 2, none⟩ = some (.int .i64 x1) := by rw [← hf2]; exact blk_cell HMT.out 2
    have HN' := Aside0.mk hn'
    have HF1 := Aside0.mk hf1
    have HF2 := Aside0.mk hf2
    clear hb' hn' hc' hf1 hf2 hme HME
    cases bt
    · by_cases c2 : n' = 0
      · subst c2
        have hlt : lt = [] := List.eq_nil_of_length_eq_zero HN'.out.symm
        cases c3 : isNode x0
        · obtain rfl : q = none := by rw [HQ.out, HRAWT.out]; exact if_pos (.inr (.inr (.inl (by show isNode m.fr = false; rw [HF1.out]; exact c3))))
          clear HQ HRAWT
          go_wp2_with fail
          refine (node_calls x0 W).mono ?_
          rintro e w6 ⟨rfl, md, hw6⟩
          rw [c3]
          have HZ6 : Aside0 (w6.heap[w.heap.size]? = some (.cells (mcells M0 (.slice none 0 0) (.slice none 0 0)) 27 (0, 0))) := ⟨by rw [hw6]; exact HZT.out⟩
          have HM6 : Aside0 (w6.heap[g + 1]? = some (.cells (mcells m (.slice A8 n8 c8) (.slice none 0 0)) 27 (0, 0))) := ⟨by rw [hw6]; exact HMT.out⟩
          have HB6 : Aside0 (Below w.heap.size w w6) := ⟨by rw [hw6]; exact pw_below_drewN HBT.out md⟩
          have HK6 : Aside0 (Kept W w6 (fun k => k = w.heap.size)) := ⟨by rw [hw6]; exact (Kept.refl _ _).drewN md⟩
          have t6 : w6.cell? ⟨g + 1, 2, none⟩ = some (.int .i64 x1) := by rw [hw6]; exact t3
          clear hw6
          go_wp2_with (refine wpList_store_row rfl 27 _ _ rfl w.heap.size #[.int .i64 0, .int .i64 0, .int .i64 0, .int .i64 0, .int .i64 0, .int .i64 0, .int .i64 0, .bool false, .slice none 0 0, .int .i64 0, .int .i64 0, .slice none 0 0, .string ⟨#[]⟩] rfl rfl 27 _ HZ6.out size_msg rfl (one_cells M0 none 0 0 none 0 0) ?_)

          exact bodyPost_ret (results_two rfl _ _ w.heap.size 27 #[.int .i64 0, .int .i64 0, .int .i64 0, .int .i64 0, .int .i64 0, .int .i64 0, .int .i64 0, .bool false, .slice none 0 0, .int .i64 0, .int .i64 0, .slice none 0 0, .string ⟨#[]⟩] (0, 0) (.int .i64 7) rfl rfl (setRow_heap _ _ _ _ _ _ HZ6.out) Try.underlying27 size_msg) rfl (decQ_none (below_setRow HB6.out (Nat.le_refl _) _))
        cases c4 : isNode x1
        · obtain rfl : q = none := by rw [HQ.out, HRAWT.out]; exact if_pos (.inr (.inr (.inr (by show isNode m.tt = false; rw [HF2.out]; exact c4))))
          clear HQ HRAWT
          go_wp2_with fail
          refine (node_calls x0 W).mono ?_
          rintro e w6 ⟨rfl, md, hw6⟩
          rw [c3]
          have HZ6 : Aside0 (w6.heap[w.heap.size]? = some (.cells (mcells M0 (.slice none 0 0) (.slice none 0 0)) 27 (0, 0))) := ⟨by rw [hw6]; exact HZT.out⟩
          have HM6 : Aside0 (w6.heap[g + 1]? = some (.cells (mcells m (.slice A8 n8 c8) (.slice none 0 0)) 27 (0, 0))) := ⟨by rw [hw6]; exact HMT.out⟩
          have HB6 : Aside0 (Below w.heap.size w w6) := ⟨by rw [hw6]; exact pw_below_drewN HBT.out md⟩
          have HK6 : Aside0 (Kept W w6 (fun k => k = w.heap.size)) := ⟨by rw [hw6]; exact (Kept.refl _ _).drewN md⟩
          have t6 : w6.cell? ⟨g + 1, 2, none⟩ = some (.int .i64 x1) := by rw [hw6]; exact t3
          clear hw6
          go_wp2_with fail
          refine (node_calls x1 w6).mono ?_
          rintro e w7 ⟨rfl, md, hw7⟩
          rw [c4]
          have HZ7 : Aside0 (w7.heap[w.heap.size]? = some (.cells (mcells M0 (.slice none 0 0) (.slice none 0 0)) 27 (0, 0))) := ⟨by rw [hw7]; exact HZ6.out⟩
          have HM7 : Aside0 (w7.heap[g + 1]? = some (.cells (mcells m (.slice A8 n8 c8) (.slice none 0 0)) 27 (0, 0))) := ⟨by rw [hw7]; exact HM6.out⟩
          have HB7 : Aside0 (Below w.heap.size w w7) := ⟨by rw [hw7]; exact pw_below_drewN HB6.out md⟩
          have HK7 : Aside0 (Kept W w7 (fun k => k = w.heap.size)) := ⟨by rw [hw7]; exact HK6.out.drewN md⟩
          clear hw7
          go_wp2_with (refine wpList_store_row rfl 27 _ _ rfl w.heap.size #[.int .i64 0, .int .i64 0, .int .i64 0, .int .i64 0, .int .i64 0, .int .i64 0, .int .i64 0, .bool false, .slice none 0 0, .int .i64 0, .int .i64 0, .slice none 0 0, .string ⟨#[]⟩] rfl rfl 27 _ HZ7.out size_msg rfl (one_cells M0 none 0 0 none 0 0) ?_)

          exact bodyPost_ret (results_two rfl _ _ w.heap.size 27 #[.int .i64 0, .int .i64 0, .int .i64 0, .int .i64 0, .int .i64 0, .int .i64 0, .int .i64 0, .bool false, .slice none 0 0, .int .i64 0, .int .i64 0, .slice none 0 0, .string ⟨#[]⟩] (0, 0) (.int .i64 7) rfl rfl (setRow_heap _ _ _ _ _ _ HZ7.out) Try.underlying27 size_msg) rfl (decQ_none (below_setRow HB7.out (Nat.le_refl _) _))
        · obtain rfl : q = some m := by
            rw [HQ.out, HRAWT.out]
            exact if_neg (by show ¬ (false = true ∨ lt ≠ [] ∨ isNode m.fr = false ∨ isNode m.tt = false); rw [HF1.out, HF2.out, c3, c4, hlt]; simp)
          clear HQ HRAWT
          go_wp2_with fail
          refine (node_calls x0 W).mono ?_
          rintro e w6 ⟨rfl, md, hw6⟩
          rw [c3]
          have HZ6 : Aside0 (w6.heap[w.heap.size]? = some (.cells (mcells M0 (.slice none 0 0) (.slice none 0 0)) 27 (0, 0))) := ⟨by rw [hw6]; exact HZT.out⟩
          have HM6 : Aside0 (w6.heap[g + 1]? = some (.cells (mcells m (.slice A8 n8 c8) (.slice none 0 0)) 27 (0, 0))) := ⟨by rw [hw6]; exact HMT.out⟩
          have HB6 : Aside0 (Below w.heap.size w w6) := ⟨by rw [hw6]; exact pw_below_drewN HBT.out md⟩
          have HK6 : Aside0 (Kept W w6 (fun k => k = w.heap.size)) := ⟨by rw [hw6]; exact (Kept.refl _ _).drewN md⟩
          have t6 : w6.cell? ⟨g + 1, 2, none⟩ = some (.int .i64 x1) := by rw [hw6]; exact t3
          clear hw6
          go_wp2_with fail
          refine (node_calls x1 w6).mono ?_
          rintro e w7 ⟨rfl, md, hw7⟩
          rw [c4]
          have HZ7 : Aside0 (w7.heap[w.heap.size]? = some (.cells (mcells M0 (.slice none 0 0) (.slice none 0 0)) 27 (0, 0))) := ⟨by rw [hw7]; exact HZ6.out⟩
          have HM7 : Aside0 (w7.heap[g + 1]? = some (.cells (mcells m (.slice A8 n8 c8) (.slice none 0 0)) 27 (0, 0))) := ⟨by rw [hw7]; exact HM6.out⟩
          have HB7 : Aside0 (Below w.heap.size w w7) := ⟨by rw [hw7]; exact pw_below_drewN HB6.out md⟩
          have HK7 : Aside0 (Kept W w7 (fun k => k = w.heap.size)) := ⟨by rw [hw7]; exact HK6.out.drewN md⟩
          clear hw7
          go_wp2_with (first
            | refine wpList_load_row rfl 27 _ rfl (g + 1) rfl 27 (mcells m (.slice A8 n8 c8) (.slice none 0 0)) (0, 0) _ HM7.out Try.underlying27 rfl size_msg ?_
            | refine wpList_store_row rfl 27 _ _ rfl w.heap.size (mcells m (.slice A8 n8 c8) (.slice none 0 0)) rfl rfl 27 _ HZ7.out size_msg rfl (one_cells _ _ _ _ _ _ _) ?_)

          exact bodyPost_ret (results_two rfl _ _ w.heap.size 27 (mcells m (.slice A8 n8 c8) (.slice none 0 0)) (0, 0) (.int .i64 0) rfl rfl (setRow_heap _ _ _ _ _ _ HZ7.out) Try.underlying27 size_msg) rfl (decQ_some HE8.out HS11.out (HK7.out.then_ (kept_setRow _ _ _) (fun _ h => .inl h)) (by have := HGG.out; omega) (below_setRow HB7.out (Nat.le_refl _) _))
      · have c2' : 0 < n' := by omega
        obtain rfl : q = none := by rw [HQ.out, HRAWT.out]; exact if_pos (.inr (.inl (by show lt ≠ []; intro he; rw [he] at HN'; exact c2 HN'.out)))
        clear HQ HRAWT
        go_wp2_with (refine wpList_store_row rfl 27 _ _ rfl w.heap.size #[.int .i64 0, .int .i64 0, .int .i64 0, .int .i64 0, .int .i64 0, .int .i64 0, .int .i64 0, .bool false, .slice none 0 0, .int .i64 0, .int .i64 0, .slice none 0 0, .string ⟨#[]⟩] rfl rfl 27 _ HZT.out size_msg rfl (one_cells M0 none 0 0 none 0 0) ?_)

        exact bodyPost_ret (results_two rfl _ _ w.heap.size 27 #[.int .i64 0, .int .i64 0, .int .i64 0, .int .i64 0, .int .i64 0, .int .i64 0, .int .i64 0, .bool false, .slice none 0 0, .int .i64 0, .int .i64 0, .slice none 0 0, .string ⟨#[]⟩] (0, 0) (.int .i64 7) rfl rfl (setRow_heap _ _ _ _ _ _ HZT.out) Try.underlying27 size_msg) rfl (decQ_none (below_setRow HBT.out (Nat.le_refl _) _))
    · obtain rfl : q = none := by rw [HQ.out, HRAWT.out]; exact if_pos (.inl rfl)
      clear HQ HRAWT
      go_wp2_with (refine wpList_store_row rfl 27 _ _ rfl w.heap.size #[.int .i64 0, .int .i64 0, .int .i64 0, .int .i64 0, .int .i64 0, .int .i64 0, .int .i64 0, .bool false, .slice none 0 0, .int .i64 0, .int .i64 0, .slice none 0 0, .string ⟨#[]⟩] rfl rfl 27 _ HZT.out size_msg rfl (one_cells M0 none 0 0 none 0 0) ?_)

      exact bodyPost_ret (results_two rfl _ _ w.heap.size 27 #[.int .i64 0, .int .i64 0, .int .i64 0, .int .i64 0, .int .i64 0, .int .i64 0, .int .i64 0, .bool false, .slice none 0 0, .int .i64 0, .int .i64 0, .slice none 0 0, .string ⟨#[]⟩] (0, 0) (.int .i64 7) rfl rfl (setRow_heap _ _ _ _ _ _ HZT.out) Try.underlying27 size_msg) rfl (decQ_none (below_setRow HBT.out (Nat.le_refl _) _))
  · subst hk
    go_wp2_with fail
    refine (rnum_calls w w4 g l4 b4 1 1 HB4.out HG.out HR4.out HBY4.out (by decide) (by decide)).mono ?_
    rintro e u5 ⟨rfl, hR, hK, hB⟩
    have hby := numP_left (bad := b4) (n := 1) (m := 1) HBY4.out
    have hrw := HRAW.out
    rw [bodyP_4] at hrw
    obtain ⟨r, hr⟩ : ∃ r, r = numP l4 b4 1 1 := ⟨_, rfl⟩
    rw [← hr] at hR ⊢ hby hrw
    obtain ⟨v, l5, b5⟩ := r
    have hM := blk_kept HM4.out hK (by show ¬ (g + 1 = g); omega)
    have hZ := blk_kept HZ4.out hK (by have := HZ.out; show ¬ (w.heap.size = g); omega)
    have f_ := blk_frozen hM 7
    have m_ : u5.cell? ⟨g + 1, 7, none⟩ = some (.bool false) := blk_cell hM 7
    have HM5 := Aside0.mk (blk_set hM 7 (.bool ((v : Int) == 1)))
    have HZ5 : Aside0 ((u5.setCell ⟨g + 1, 7, none⟩ (.bool ((v : Int) == 1))).heap[w.heap.size]? = _) := ⟨blk_far hZ (p := ⟨g + 1, 7, none⟩) HZ.out.1 _⟩
    have HR5 : Aside0 (Rd w (u5.setCell ⟨g + 1, 7, none⟩ (.bool ((v : Int) == 1))) g l5 b5) := ⟨hR.kept (S := fun k => k = g + 1) (Kept.setCell (S := fun k => k = g + 1) (p := ⟨g + 1, 7, none⟩) (Kept.refl _ _) (.inl rfl) _) (by show ¬ (g = g + 1); omega)⟩
    have HB5 : Aside0 (Below w.heap.size w (u5.setCell ⟨g + 1, 7, none⟩ (.bool ((v : Int) == 1)))) := ⟨hB.setCell (p := ⟨g + 1, 7, none⟩) (by show w.heap.size ≤ g + 1; have := HG.out; omega) _⟩
    have HG5 : Aside0 (g + 1 < (u5.setCell ⟨g + 1, 7, none⟩ (.bool ((v : Int) == 1))).heap.size) := ⟨by have := Nat.lt_of_lt_of_le HG4.out hK.1; simpa using this⟩
    have HBY5 := Aside0.mk hby
    have HRAW : Aside0 (rawP l = ((⟨4, x0, x1, x2, (intsP l5 b5 1).1.getD 0 0, 0, 0, ((v : Int) == 1), [], 0, 0, [], ⟨#[]⟩⟩ : M13), (intsP l5 b5 1).2)) := ⟨hrw⟩
    clear hR hM hK hB hZ hby hr hrw HR4 HM4 HZ4 HB4 HBY4
    go_upto_region 15 with (fail)
    obtain ⟨w5, hw⟩ : ∃ w5, w5 = u5.setCell ⟨g + 1, 7, none⟩ (.bool ((v : Int) == 1)) := ⟨_, rfl⟩
    rw [← hw] at HM5 HZ5 HR5 HB5 HG5 ⊢
    clear hw f_ m_ HG4
    go_wp2_with fail
    refine (rints_calls w _ g l5 b5 w5.heap.size (g + 1) 4 1 _ 27 (HB5.out.alloc HB5.out.size _) HG.out (by have := HG.out; omega) (HR5.out.kept (S := fun _ => False) ((Kept.refl _ _).alloc _) (fun h => h)) HBY5.out (by decide) (blk_alloc HM5.out _) (blk_new w5 (.cells (ptrs (g + 1) 4 1) 68)) (by omega) (by have := HG5.out; omega) (by have := HG5.out; omega) (fun i hi => ?_)).mono ?_
    · have : i = 0 := by omega
      rcases this with rfl <;> exact ⟨_, rfl⟩
    rintro e w6 ⟨rfl, hR, hM, hK, hB⟩
    have hK' : Kept w5 w6 (fun k => k = g ∨ k = g + 1) := ((Kept.refl w5 (fun k => k = g ∨ k = g + 1)).alloc _).then_ hK (fun k hk => .inl hk)
    have HZ6 := Aside0.mk (blk_kept HZ5.out hK' (by have := HZ.out; simp; omega))
    have HG6 : Aside0 (g + 1 < w6.heap.size) := ⟨Nat.lt_of_lt_of_le HG5.out hK'.1⟩
    have hby := intsP_left (bad := b5) HBY5.out 1
    obtain ⟨r, hr⟩ : ∃ r, r = intsP l5 b5 1 := ⟨_, rfl⟩
    have hl3 : r.1.length = 1 := by rw [hr]; exact intsP_length _ _ _
    have hrw := HRAW.out
    rw [← hr] at hR hM hby hrw
    obtain ⟨vs, l6, b6⟩ := r
    obtain ⟨y40, rfl⟩ : ∃ y40, vs = [y40] := by
      match vs, hl3 with
      | [y40], _ => exact ⟨_, rfl⟩
    have HM6 : Aside0 (w6.heap[g + 1]? = some (.cells #[.int .i64 4, .int .i64 x0, .int .i64 x1, .int .i64 x2, .int .i64 y40, .int .i64 0, .int .i64 0, .bool ((v : Int) == 1), .slice none 0 0, .int .i64 0, .int .i64 0, .slice none 0 0, .string ⟨#[]⟩] 27 (0, 0))) := ⟨hM⟩
    have HRAW : Aside0 (rawP l = ((⟨4, x0, x1, x2, y40, 0, 0, ((v : Int) == 1), [], 0, 0, [], ⟨#[]⟩⟩ : M13), l6, b6)) := ⟨hrw⟩
    have HR6 := Aside0.mk hR
    have HB6 := Aside0.mk hB
    have HBY6 := Aside0.mk hby
    clear hR hM hK hB hK' hby hr hl3 hrw HR5 HM5 HZ5 HB5 HBY5 HG5
    go_upto_region 20 with (fail)
    have HRT := HR6
    have HMT : Aside0 (w6.heap[g + 1]? = some (.cells (mcells (⟨4, x0, x1, x2, y40, 0, 0, ((v : Int) == 1), [], 0, 0, [], ⟨#[]⟩⟩ : M13) (.slice none 0 0) (.slice none 0 0)) 27 (0, 0))) := ⟨HM6.out⟩
    have HZT := HZ6
    have HBT := HB6
    have HE8 : Aside0 (k46.R 46 w6 w.heap.size (fun k => g + 1 < k) (.slice none 0 0) (⟨4, x0, x1, x2, y40, 0, 0, ((v : Int) == 1), [], 0, 0, [], ⟨#[]⟩⟩ : M13).es) := ⟨Kd.R_nil _ _ _ _ _⟩
    have HS11 : Aside0 ((Kd.int .i64).R 3 w6 w.heap.size (fun k => g + 1 < k) (.slice none 0 0) (⟨4, x0, x1, x2, y40, 0, 0, ((v : Int) == 1), [], 0, 0, [], ⟨#[]⟩⟩ : M13).sm) := ⟨Kd.R_nil _ _ _ _ _⟩
    have HRAWT := HRAW
    obtain ⟨lt, hlt⟩ : ∃ lt, lt = l6 := ⟨_, rfl⟩
    obtain ⟨bt, hbt⟩ : ∃ bt, bt = b6 := ⟨_, rfl⟩
    obtain ⟨W, hW⟩ : ∃ W, W = w6 := ⟨_, rfl⟩
    rw [← hlt, ← hbt] at HRT HRAWT
    rw [← hW] at HRT HMT HZT HBT HE8 HS11 ⊢
    have HME := ()
    clear hW hlt hbt HRAW HR6 HM6 HZ6 HB6 HBY6
    obtain ⟨A', n', c', hb', hn', hc', _, _⟩ := HRT.out
    have t0 : W.cell? ⟨g, 0, none⟩ = some (.slice A' n' c') := blk_cell hb' 0
    have t1 : W.cell? ⟨g, 1, none⟩ = some (.bool bt) := blk_cell hb' 1
    obtain ⟨m, hme⟩ : ∃ m : M13, m = (⟨4, x0, x1, x2, y40, 0, 0, ((v : Int) == 1), [], 0, 0, [], ⟨#[]⟩⟩ : M13) := ⟨_, rfl⟩
    rw [← hme] at HMT HE8 HS11 HRAWT
    have hf1 : m.fr = x0 := by rw [hme]
    have hf2 : m.tt = x1 := by rw [hme]
    have t2 : W.cell? ⟨g + 1, 1, none⟩ = some (.int .i64 x0) := by rw [← hf1]; exact blk_cell HMT.out 1
    have t3 : W.cell? ⟨g + 1, 2, none⟩ = some (.int .i64 x1) := by rw [← hf2]; exact blk_cell HMT.out 2
    have HN' := Aside0.mk hn'
    have HF1 := Aside0.mk hf1
    have HF2 := Aside0.mk hf2
    clear hb' hn' hc' hf1 hf2 hme HME
    cases bt
    · by_cases c2 : n' = 0
      · subst c2
        have hlt : lt = [] := List.eq_nil_of_length_eq_zero HN'.out.symm
        cases c3 : isNode x0
        · obtain rfl : q = none := by rw [HQ.out, HRAWT.out]; exact if_pos (.inr (.inr (.inl (by show isNode m.fr = false; rw [HF1.out]; exact c3))))
          clear HQ HRAWT
          go_wp2_with fail
          refine (node_calls x0 W).mono ?_
          rintro e w6 ⟨rfl, md, hw6⟩
          rw [c3]
          have HZ6 : Aside0 (w6.heap[w.heap.size]? = some (.cells (mcells M0 (.slice none 0 0) (.slice none 0 0)) 27 (0, 0))) := ⟨by rw [hw6]; exact HZT.out⟩
          have HM6 : Aside0 (w6.heap[g + 1]? = some (.cells (mcells m (.slice none 0 0) (.slice none 0 0)) 27 (0, 0))) := ⟨by rw [hw6]; exact HMT.out⟩
          have HB6 : Aside0 (Below w.heap.size w w6) := ⟨by rw [hw6]; exact pw_below_drewN HBT.out md⟩
          have HK6 : Aside0 (Kept W w6 (fun k => k = w.heap.size)) := ⟨by rw [hw6]; exact (Kept.refl _ _).drewN md⟩
          have t6 : w6.cell? ⟨g + 1, 2, none⟩ = some (.int .i64 x1) := by rw [hw6]; exact t3
          clear hw6
          go_wp2_with (refine wpList_store_row rfl 27 _ _ rfl w.heap.size #[.int .i64 0, .int .i64 0, .int .i64 0, .int .i64 0, .int .i64 0, .int .i64 0, .int .i64 0, .bool false, .slice none 0 0, .int .i64 0, .int .i64 0, .slice none 0 0, .string ⟨#[]⟩] rfl rfl 27 _ HZ6.out size_msg rfl (one_cells M0 none 0 0 none 0 0) ?_)

          exact bodyPost_ret (results_two rfl _ _ w.heap.size 27 #[.int .i64 0, .int .i64 0, .int .i64 0, .int .i64 0, .int .i64 0, .int .i64 0, .int .i64 0, .bool false, .slice none 0 0, .int .i64 0, .int .i64 0, .slice none 0 0, .string ⟨#[]⟩] (0, 0) (.int .i64 7) rfl rfl (setRow_heap _ _ _ _ _ _ HZ6.out) Try.underlying27 size_msg) rfl (decQ_none (below_setRow HB6.out (Nat.le_refl _) _))
        cases c4 : isNode x1
        · obtain rfl : q = none := by rw [HQ.out, HRAWT.out]; exact if_pos (.inr (.inr (.inr (by show isNode m.tt = false; rw [HF2.out]; exact c4))))
          clear HQ HRAWT
          go_wp2_with fail
          refine (node_calls x0 W).mono ?_
          rintro e w6 ⟨rfl, md, hw6⟩
          rw [c3]
          have HZ6 : Aside0 (w6.heap[w.heap.size]? = some (.cells (mcells M0 (.slice none 0 0) (.slice none 0 0)) 27 (0, 0))) := ⟨by rw [hw6]; exact HZT.out⟩
          have HM6 : Aside0 (w6.heap[g + 1]? = some (.cells (mcells m (.slice none 0 0) (.slice none 0 0)) 27 (0, 0))) := ⟨by rw [hw6]; exact HMT.out⟩
          have HB6 : Aside0 (Below w.heap.size w w6) := ⟨by rw [hw6]; exact pw_below_drewN HBT.out md⟩
          have HK6 : Aside0 (Kept W w6 (fun k => k = w.heap.size)) := ⟨by rw [hw6]; exact (Kept.refl _ _).drewN md⟩
          have t6 : w6.cell? ⟨g + 1, 2, none⟩ = some (.int .i64 x1) := by rw [hw6]; exact t3
          clear hw6
          go_wp2_with fail
          refine (node_calls x1 w6).mono ?_
          rintro e w7 ⟨rfl, md, hw7⟩
          rw [c4]
          have HZ7 : Aside0 (w7.heap[w.heap.size]? = some (.cells (mcells M0 (.slice none 0 0) (.slice none 0 0)) 27 (0, 0))) := ⟨by rw [hw7]; exact HZ6.out⟩
          have HM7 : Aside0 (w7.heap[g + 1]? = some (.cells (mcells m (.slice none 0 0) (.slice none 0 0)) 27 (0, 0))) := ⟨by rw [hw7]; exact HM6.out⟩
          have HB7 : Aside0 (Below w.heap.size w w7) := ⟨by rw [hw7]; exact pw_below_drewN HB6.out md⟩
          have HK7 : Aside0 (Kept W w7 (fun k => k = w.heap.size)) := ⟨by rw [hw7]; exact HK6.out.drewN md⟩
          clear hw7
          go_wp2_with (refine wpList_store_row rfl 27 _ _ rfl w.heap.size #[.int .i64 0, .int .i64 0, .int .i64 0, .int .i64 0, .int .i64 0, .int .i64 0, .int .i64 0, .bool false, .slice none 0 0, .int .i64 0, .int .i64 0, .slice none 0 0, .string ⟨#[]⟩] rfl rfl 27 _ HZ7.out size_msg rfl (one_cells M0 none 0 0 none 0 0) ?_)

          exact bodyPost_ret (results_two rfl _ _ w.heap.size 27 #[.int .i64 0, .int .i64 0, .int .i64 0, .int .i64 0, .int .i64 0, .int .i64 0, .int .i64 0, .bool false, .slice none 0 0, .int .i64 0, .int .i64 0, .slice none 0 0, .string ⟨#[]⟩] (0, 0) (.int .i64 7) rfl rfl (setRow_heap _ _ _ _ _ _ HZ7.out) Try.underlying27 size_msg) rfl (decQ_none (below_setRow HB7.out (Nat.le_refl _) _))
        · obtain rfl : q = some m := by
            rw [HQ.out, HRAWT.out]
            exact if_neg (by show ¬ (false = true ∨ lt ≠ [] ∨ isNode m.fr = false ∨ isNode m.tt = false); rw [HF1.out, HF2.out, c3, c4, hlt]; simp)
          clear HQ HRAWT
          go_wp2_with fail
          refine (node_calls x0 W).mono ?_
          rintro e w6 ⟨rfl, md, hw6⟩
          rw [c3]
          have HZ6 : Aside0 (w6.heap[w.heap.size]? = some (.cells (mcells M0 (.slice none 0 0) (.slice none 0 0)) 27 (0, 0))) := ⟨by rw [hw6]; exact HZT.out⟩
          have HM6 : Aside0 (w6.heap[g + 1]? = some (.cells (mcells m (.slice none 0 0) (.slice none 0 0)) 27 (0, 0))) := ⟨by rw [hw6]; exact HMT.out⟩
          have HB6 : Aside0 (Below w.heap.size w w6) := ⟨by rw [hw6]; exact pw_below_drewN HBT.out md⟩
          have HK6 : Aside0 (Kept W w6 (fun k => k = w.heap.size)) := ⟨by rw [hw6]; exact (Kept.refl _ _).drewN md⟩
          have t6 : w6.cell? ⟨g + 1, 2, none⟩ = some (.int .i64 x1) := by rw [hw6]; exact t3
          clear hw6
          go_wp2_with fail
          refine (node_calls x1 w6).mono ?_
          rintro e w7 ⟨rfl, md, hw7⟩
          rw [c4]
          have HZ7 : Aside0 (w7.heap[w.heap.size]? = some (.cells (mcells M0 (.slice none 0 0) (.slice none 0 0)) 27 (0, 0))) := ⟨by rw [hw7]; exact HZ6.out⟩
          have HM7 : Aside0 (w7.heap[g + 1]? = some (.cells (mcells m (.slice none 0 0) (.slice none 0 0)) 27 (0, 0))) := ⟨by rw [hw7]; exact HM6.out⟩
          have HB7 : Aside0 (Below w.heap.size w w7) := ⟨by rw [hw7]; exact pw_below_drewN HB6.out md⟩
          have HK7 : Aside0 (Kept W w7 (fun k => k = w.heap.size)) := ⟨by rw [hw7]; exact HK6.out.drewN md⟩
          clear hw7
          go_wp2_with (first
            | refine wpList_load_row rfl 27 _ rfl (g + 1) rfl 27 (mcells m (.slice none 0 0) (.slice none 0 0)) (0, 0) _ HM7.out Try.underlying27 rfl size_msg ?_
            | refine wpList_store_row rfl 27 _ _ rfl w.heap.size (mcells m (.slice none 0 0) (.slice none 0 0)) rfl rfl 27 _ HZ7.out size_msg rfl (one_cells _ _ _ _ _ _ _) ?_)

          exact bodyPost_ret (results_two rfl _ _ w.heap.size 27 (mcells m (.slice none 0 0) (.slice none 0 0)) (0, 0) (.int .i64 0) rfl rfl (setRow_heap _ _ _ _ _ _ HZ7.out) Try.underlying27 size_msg) rfl (decQ_some HE8.out HS11.out (HK7.out.then_ (kept_setRow _ _ _) (fun _ h => .inl h)) (by have := HGG.out; omega) (below_setRow HB7.out (Nat.le_refl _) _))
      · have c2' : 0 < n' := by omega
        obtain rfl : q = none := by rw [HQ.out, HRAWT.out]; exact if_pos (.inr (.inl (by show lt ≠ []; intro he; rw [he] at HN'; exact c2 HN'.out)))
        clear HQ HRAWT
        go_wp2_with (refine wpList_store_row rfl 27 _ _ rfl w.heap.size #[.int .i64 0, .int .i64 0, .int .i64 0, .int .i64 0, .int .i64 0, .int .i64 0, .int .i64 0, .bool false, .slice none 0 0, .int .i64 0, .int .i64 0, .slice none 0 0, .string ⟨#[]⟩] rfl rfl 27 _ HZT.out size_msg rfl (one_cells M0 none 0 0 none 0 0) ?_)

        exact bodyPost_ret (results_two rfl _ _ w.heap.size 27 #[.int .i64 0, .int .i64 0, .int .i64 0, .int .i64 0, .int .i64 0, .int .i64 0, .int .i64 0, .bool false, .slice none 0 0, .int .i64 0, .int .i64 0, .slice none 0 0, .string ⟨#[]⟩] (0, 0) (.int .i64 7) rfl rfl (setRow_heap _ _ _ _ _ _ HZT.out) Try.underlying27 size_msg) rfl (decQ_none (below_setRow HBT.out (Nat.le_refl _) _))
    · obtain rfl : q = none := by rw [HQ.out, HRAWT.out]; exact if_pos (.inl rfl)
      clear HQ HRAWT
      go_wp2_with (refine wpList_store_row rfl 27 _ _ rfl w.heap.size #[.int .i64 0, .int .i64 0, .int .i64 0, .int .i64 0, .int .i64 0, .int .i64 0, .int .i64 0, .bool false, .slice none 0 0, .int .i64 0, .int .i64 0, .slice none 0 0, .string ⟨#[]⟩] rfl rfl 27 _ HZT.out size_msg rfl (one_cells M0 none 0 0 none 0 0) ?_)

      exact bodyPost_ret (results_two rfl _ _ w.heap.size 27 #[.int .i64 0, .int .i64 0, .int .i64 0, .int .i64 0, .int .i64 0, .int .i64 0, .int .i64 0, .bool false, .slice none 0 0, .int .i64 0, .int .i64 0, .slice none 0 0, .string ⟨#[]⟩] (0, 0) (.int .i64 7) rfl rfl (setRow_heap _ _ _ _ _ _ HZT.out) Try.underlying27 size_msg) rfl (decQ_none (below_setRow HBT.out (Nat.le_refl _) _))
  · subst hk
    go_wp2_with fail
    refine (rints_calls w _ g l4 b4 w4.heap.size (g + 1) 9 2 _ 27 (HB4.out.alloc HB4.out.size _) HG.out (by have := HG.out; omega) (HR4.out.kept (S := fun _ => False) ((Kept.refl _ _).alloc _) (fun h => h)) HBY4.out (by decide) (blk_alloc HM4.out _) (blk_new w4 (.cells (ptrs (g + 1) 9 2) 68)) (by omega) (by have := HG4.out; omega) (by have := HG4.out; omega) (fun i hi => ?_)).mono ?_
    · have : i = 0 ∨ i = 1 := by omega
      rcases this with rfl | rfl <;> exact ⟨_, rfl⟩
    rintro e w5 ⟨rfl, hR, hM, hK, hB⟩
    have hK' : Kept w4 w5 (fun k => k = g ∨ k = g + 1) := ((Kept.refl w4 (fun k => k = g ∨ k = g + 1)).alloc _).then_ hK (fun k hk => .inl hk)
    have HZ5 := Aside0.mk (blk_kept HZ4.out hK' (by have := HZ.out; simp; omega))
    have HG5 : Aside0 (g + 1 < w5.heap.size) := ⟨Nat.lt_of_lt_of_le HG4.out hK'.1⟩
    have hby := intsP_left (bad := b4) HBY4.out 2
    obtain ⟨r, hr⟩ : ∃ r, r = intsP l4 b4 2 := ⟨_, rfl⟩
    have hl3 : r.1.length = 2 := by rw [hr]; exact intsP_length _ _ _
    have hrw := HRAW.out
    rw [bodyP_5] at hrw
    rw [← hr] at hR hM hby hrw
    obtain ⟨vs, l5, b5⟩ := r
    obtain ⟨y90, y91, rfl⟩ : ∃ y90 y91, vs = [y90, y91] := by
      match vs, hl3 with
      | [y90, y91], _ => exact ⟨_, _, rfl⟩
    have HM5 : Aside0 (w5.heap[g + 1]? = some (.cells #[.int .i64 5, .int .i64 x0, .int .i64 x1, .int .i64 x2, .int .i64 0, .int .i64 0, .int .i64 0, .bool false, .slice none 0 0, .int .i64 y90, .int .i64 y91, .slice none 0 0, .string ⟨#[]⟩] 27 (0, 0))) := ⟨hM⟩
    have HRAW : Aside0 (rawP l = ((⟨5, x0, x1, x2, 0, 0, 0, false, [], y90, y91, (memP l5 b5).1, (textP (memP l5 b5).2.1 (memP l5 b5).2.2 65536).1⟩ : M13), (textP (memP l5 b5).2.1 (memP l5 b5).2.2 65536).2)) := ⟨hrw⟩
    have HR5 := Aside0.mk hR
    have HB5 := Aside0.mk hB
    have HBY5 := Aside0.mk hby
    clear hR hM hK hB hK' hby hr hl3 hrw HR4 HM4 HZ4 HB4 HBY4 HG4
    go_wp2_with fail
    refine (rmem_calls w w5 g l5 b5 HB5.out HG.out HR5.out HBY5.out).mono ?_
    rintro e u6 ⟨v11, rfl, hV, hR, hK, hB⟩
    have hby := memP_left (bad := b5) HBY5.out
    have hrw := HRAW.out
    obtain ⟨r, hr⟩ : ∃ r, r = memP l5 b5 := ⟨_, rfl⟩
    rw [← hr] at hR hV hby hrw
    obtain ⟨ms, l6, b6⟩ := r
    obtain ⟨A11, c11, hv11⟩ := Kd.R_slice hV
    obtain ⟨n11, hn11⟩ : ∃ n11, n11 = (ms, l6, b6).1.length := ⟨_, rfl⟩
    rw [← hn11] at hv11
    subst hv11
    clear hn11
    have hM := blk_kept HM5.out hK (by show ¬ (g + 1 = g); omega)
    have hZ := blk_kept HZ5.out hK (by have := HZ.out; show ¬ (w.heap.size = g); omega)
    have f_ := blk_frozen hM 11
    have m_ : u6.cell? ⟨g + 1, 11, none⟩ = some (.slice none 0 0) := blk_cell hM 11
    have HM6 := Aside0.mk (blk_set hM 11 (.slice A11 n11 c11))
    have HZ6 : Aside0 ((u6.setCell ⟨g + 1, 11, none⟩ (.slice A11 n11 c11)).heap[w.heap.size]? = _) := ⟨blk_far hZ (p := ⟨g + 1, 11, none⟩) HZ.out.1 _⟩
    have HR6 : Aside0 (Rd w (u6.setCell ⟨g + 1, 11, none⟩ (.slice A11 n11 c11)) g l6 b6) := ⟨hR.kept (S := fun k => k = g + 1) (Kept.setCell (S := fun k => k = g + 1) (p := ⟨g + 1, 11, none⟩) (Kept.refl _ _) (.inl rfl) _) (by show ¬ (g = g + 1); omega)⟩
    have HB6 : Aside0 (Below w.heap.size w (u6.setCell ⟨g + 1, 11, none⟩ (.slice A11 n11 c11))) := ⟨hB.setCell (p := ⟨g + 1, 11, none⟩) (by show w.heap.size ≤ g + 1; have := HG.out; omega) _⟩
    have HG6 : Aside0 (g + 1 < (u6.setCell ⟨g + 1, 11, none⟩ (.slice A11 n11 c11)).heap.size) := ⟨by have := Nat.lt_of_lt_of_le HG5.out hK.1; simpa using this⟩
    have HBY6 := Aside0.mk hby
    have HRAW : Aside0 (rawP l = ((⟨5, x0, x1, x2, 0, 0, 0, false, [], y90, y91, ms, (textP l6 b6 65536).1⟩ : M13), (textP l6 b6 65536).2)) := ⟨hrw⟩
    have HS6 : Aside0 ((Kd.int .i64).R 3 (u6.setCell ⟨g + 1, 11, none⟩ (.slice A11 n11 c11)) w.heap.size (fun k => g + 1 < k) (.slice A11 n11 c11) ms) := ⟨Kd.R_far (Kd.R_mono hV (fun k hk => by have := HG5.out; omega)) (p := ⟨g + 1, 11, none⟩) (fun k hk => by show k ≠ g + 1; omega) _⟩
    clear hV
    clear hR hM hK hB hZ hby hr hrw HR5 HM5 HZ5 HB5 HBY5
    go_upto_region 19 with (fail)
    obtain ⟨w6, hw⟩ : ∃ w6, w6 = u6.setCell ⟨g + 1, 11, none⟩ (.slice A11 n11 c11) := ⟨_, rfl⟩
    rw [← hw] at HM6 HZ6 HR6 HB6 HG6 HS6 ⊢
    clear hw f_ m_ HG5
    go_wp2_with fail
    refine (rtext_calls w w6 g l6 b6 65536 HB6.out HG.out HR6.out HBY6.out (by decide)).mono ?_
    rintro e u7 ⟨rfl, hR, hK, hB⟩
    have hby := textP_left (bad := b6) (m := 65536) HBY6.out
    have hrw := HRAW.out
    obtain ⟨r, hr⟩ : ∃ r, r = textP l6 b6 65536 := ⟨_, rfl⟩
    rw [← hr] at hR ⊢ hby hrw
    obtain ⟨s, l7, b7⟩ := r
    have hM := blk_kept HM6.out hK (by show ¬ (g + 1 = g); omega)
    have hZ := blk_kept HZ6.out hK (by have := HZ.out; show ¬ (w.heap.size = g); omega)
    have f_ := blk_frozen hM 12
    have m_ : u7.cell? ⟨g + 1, 12, none⟩ = some (.string ⟨#[]⟩) := blk_cell hM 12
    have HM7 := Aside0.mk (blk_set hM 12 (.string s))
    have HZ7 : Aside0 ((u7.setCell ⟨g + 1, 12, none⟩ (.string s)).heap[w.heap.size]? = _) := ⟨blk_far hZ (p := ⟨g + 1, 12, none⟩) HZ.out.1 _⟩
    have HR7 : Aside0 (Rd w (u7.setCell ⟨g + 1, 12, none⟩ (.string s)) g l7 b7) := ⟨hR.kept (S := fun k => k = g + 1) (Kept.setCell (S := fun k => k = g + 1) (p := ⟨g + 1, 12, none⟩) (Kept.refl _ _) (.inl rfl) _) (by show ¬ (g = g + 1); omega)⟩
    have HB7 : Aside0 (Below w.heap.size w (u7.setCell ⟨g + 1, 12, none⟩ (.string s))) := ⟨hB.setCell (p := ⟨g + 1, 12, none⟩) (by show w.heap.size ≤ g + 1; have := HG.out; omega) _⟩
    have HG7 : Aside0 (g + 1 < (u7.setCell ⟨g + 1, 12, none⟩ (.string s)).heap.size) := ⟨by have := Nat.lt_of_lt_of_le HG6.out hK.1; simpa using this⟩
    have HBY7 := Aside0.mk hby
    have HRAW : Aside0 (rawP l = ((⟨5, x0, x1, x2, 0, 0, 0, false, [], y90, y91, ms, s⟩ : M13), l7, b7)) := ⟨hrw⟩
    have HS7 : Aside0 ((Kd.int .i64).R 3 (u7.setCell ⟨g + 1, 12, none⟩ (.string s)) w.heap.size (fun k => g + 1 < k) (.slice A11 n11 c11) ms) := ⟨Kd.R_far (Kd.R_kept HS6.out hK (fun k hk => by show ¬ (k = g); omega)) (p := ⟨g + 1, 12, none⟩) (fun k hk => by show k ≠ g + 1; omega) _⟩
    clear HS6
    clear hR hM hK hB hZ hby hr hrw HR6 HM6 HZ6 HB6 HBY6
    go_upto_region 20 with (fail)
    obtain ⟨w7, hw⟩ : ∃ w7, w7 = u7.setCell ⟨g + 1, 12, none⟩ (.string s) := ⟨_, rfl⟩
    rw [← hw] at HM7 HZ7 HR7 HB7 HG7 HS7 ⊢
    clear hw f_ m_ HG6
    go_upto_region 20 with (fail)
    have HRT := HR7
    have HMT : Aside0 (w7.heap[g + 1]? = some (.cells (mcells (⟨5, x0, x1, x2, 0, 0, 0, false, [], y90, y91, ms, s⟩ : M13) (.slice none 0 0) (.slice A11 n11 c11)) 27 (0, 0))) := ⟨HM7.out⟩
    have HZT := HZ7
    have HBT := HB7
    have HE8 : Aside0 (k46.R 46 w7 w.heap.size (fun k => g + 1 < k) (.slice none 0 0) (⟨5, x0, x1, x2, 0, 0, 0, false, [], y90, y91, ms, s⟩ : M13).es) := ⟨Kd.R_nil _ _ _ _ _⟩
    have HS11 : Aside0 ((Kd.int .i64).R 3 w7 w.heap.size (fun k => g + 1 < k) (.slice A11 n11 c11) (⟨5, x0, x1, x2, 0, 0, 0, false, [], y90, y91, ms, s⟩ : M13).sm) := HS7
    have HRAWT := HRAW
    obtain ⟨lt, hlt⟩ : ∃ lt, lt = l7 := ⟨_, rfl⟩
    obtain ⟨bt, hbt⟩ : ∃ bt, bt = b7 := ⟨_, rfl⟩
    obtain ⟨W, hW⟩ : ∃ W, W = w7 := ⟨_, rfl⟩
    rw [← hlt, ← hbt] at HRT HRAWT
    rw [← hW] at HRT HMT HZT HBT HE8 HS11 ⊢
    have HME := ()
    clear hW hlt hbt HRAW HR7 HM7 HZ7 HB7 HBY7
    obtain ⟨A', n', c', hb', hn', hc', _, _⟩ := HRT.out
    have t0 : W.cell? ⟨g, 0, none⟩ = some (.slice A' n' c') := blk_cell hb' 0
    have t1 : W.cell? ⟨g, 1, none⟩ = some (.bool bt) := blk_cell hb' 1
    obtain ⟨m, hme⟩ : ∃ m : M13, m = (⟨5, x0, x1, x2, 0, 0, 0, false, [], y90, y91, ms, s⟩ : M13) := ⟨_, rfl⟩
    rw [← hme] at HMT HE8 HS11 HRAWT
    have hf1 : m.fr = x0 := by rw [hme]
    have hf2 : m.tt = x1 := by rw [hme]
    have t2 : W.cell? ⟨g + 1, 1, none⟩ = some (.int .i64 x0) := by rw [← hf1]; exact blk_cell HMT.out 1
    have t3 : W.cell? ⟨g + 1, 2, none⟩ = some (.int .i64 x1) := by rw [← hf2]; exact blk_cell HMT.out 2
    have HN' := Aside0.mk hn'
    have HF1 := Aside0.mk hf1
    have HF2 := Aside0.mk hf2
    clear hb' hn' hc' hf1 hf2 hme HME
    cases bt
    · by_cases c2 : n' = 0
      · subst c2
        have hlt : lt = [] := List.eq_nil_of_length_eq_zero HN'.out.symm
        cases c3 : isNode x0
        · obtain rfl : q = none := by rw [HQ.out, HRAWT.out]; exact if_pos (.inr (.inr (.inl (by show isNode m.fr = false; rw [HF1.out]; exact c3))))
          clear HQ HRAWT
          go_wp2_with fail
          refine (node_calls x0 W).mono ?_
          rintro e w6 ⟨rfl, md, hw6⟩
          rw [c3]
          have HZ6 : Aside0 (w6.heap[w.heap.size]? = some (.cells (mcells M0 (.slice none 0 0) (.slice none 0 0)) 27 (0, 0))) := ⟨by rw [hw6]; exact HZT.out⟩
          have HM6 : Aside0 (w6.heap[g + 1]? = some (.cells (mcells m (.slice none 0 0) (.slice A11 n11 c11)) 27 (0, 0))) := ⟨by rw [hw6]; exact HMT.out⟩
          have HB6 : Aside0 (Below w.heap.size w w6) := ⟨by rw [hw6]; exact pw_below_drewN HBT.out md⟩
          have HK6 : Aside0 (Kept W w6 (fun k => k = w.heap.size)) := ⟨by rw [hw6]; exact (Kept.refl _ _).drewN md⟩
          have t6 : w6.cell? ⟨g + 1, 2, none⟩ = some (.int .i64 x1) := by rw [hw6]; exact t3
          clear hw6
          go_wp2_with (refine wpList_store_row rfl 27 _ _ rfl w.heap.size #[.int .i64 0, .int .i64 0, .int .i64 0, .int .i64 0, .int .i64 0, .int .i64 0, .int .i64 0, .bool false, .slice none 0 0, .int .i64 0, .int .i64 0, .slice none 0 0, .string ⟨#[]⟩] rfl rfl 27 _ HZ6.out size_msg rfl (one_cells M0 none 0 0 none 0 0) ?_)

          exact bodyPost_ret (results_two rfl _ _ w.heap.size 27 #[.int .i64 0, .int .i64 0, .int .i64 0, .int .i64 0, .int .i64 0, .int .i64 0, .int .i64 0, .bool false, .slice none 0 0, .int .i64 0, .int .i64 0, .slice none 0 0, .string ⟨#[]⟩] (0, 0) (.int .i64 7) rfl rfl (setRow_heap _ _ _ _ _ _ HZ6.out) Try.underlying27 size_msg) rfl (decQ_none (below_setRow HB6.out (Nat.le_refl _) _))
        cases c4 : isNode x1
        · obtain rfl : q = none := by rw [HQ.out, HRAWT.out]; exact if_pos (.inr (.inr (.inr (by show isNode m.tt = false; rw [HF2.out]; exact c4))))
          clear HQ HRAWT
          go_wp2_with fail
          refine (node_calls x0 W).mono ?_
          rintro e w6 ⟨rfl, md, hw6⟩
          rw [c3]
          have HZ6 : Aside0 (w6.heap[w.heap.size]? = some (.cells (mcells M0 (.slice none 0 0) (.slice none 0 0)) 27 (0, 0))) := ⟨by rw [hw6]; exact HZT.out⟩
          have HM6 : Aside0 (w6.heap[g + 1]? = some (.cells (mcells m (.slice none 0 0) (.slice A11 n11 c11)) 27 (0, 0))) := ⟨by rw [hw6]; exact HMT.out⟩
          have HB6 : Aside0 (Below w.heap.size w w6) := ⟨by rw [hw6]; exact pw_below_drewN HBT.out md⟩
          have HK6 : Aside0 (Kept W w6 (fun k => k = w.heap.size)) := ⟨by rw [hw6]; exact (Kept.refl _ _).drewN md⟩
          have t6 : w6.cell? ⟨g + 1, 2, none⟩ = some (.int .i64 x1) := by rw [hw6]; exact t3
          clear hw6
          go_wp2_with fail
          refine (node_calls x1 w6).mono ?_
          rintro e w7 ⟨rfl, md, hw7⟩
          rw [c4]
          have HZ7 : Aside0 (w7.heap[w.heap.size]? = some (.cells (mcells M0 (.slice none 0 0) (.slice none 0 0)) 27 (0, 0))) := ⟨by rw [hw7]; exact HZ6.out⟩
          have HM7 : Aside0 (w7.heap[g + 1]? = some (.cells (mcells m (.slice none 0 0) (.slice A11 n11 c11)) 27 (0, 0))) := ⟨by rw [hw7]; exact HM6.out⟩
          have HB7 : Aside0 (Below w.heap.size w w7) := ⟨by rw [hw7]; exact pw_below_drewN HB6.out md⟩
          have HK7 : Aside0 (Kept W w7 (fun k => k = w.heap.size)) := ⟨by rw [hw7]; exact HK6.out.drewN md⟩
          clear hw7
          go_wp2_with (refine wpList_store_row rfl 27 _ _ rfl w.heap.size #[.int .i64 0, .int .i64 0, .int .i64 0, .int .i64 0, .int .i64 0, .int .i64 0, .int .i64 0, .bool false, .slice none 0 0, .int .i64 0, .int .i64 0, .slice none 0 0, .string ⟨#[]⟩] rfl rfl 27 _ HZ7.out size_msg rfl (one_cells M0 none 0 0 none 0 0) ?_)

          exact bodyPost_ret (results_two rfl _ _ w.heap.size 27 #[.int .i64 0, .int .i64 0, .int .i64 0, .int .i64 0, .int .i64 0, .int .i64 0, .int .i64 0, .bool false, .slice none 0 0, .int .i64 0, .int .i64 0, .slice none 0 0, .string ⟨#[]⟩] (0, 0) (.int .i64 7) rfl rfl (setRow_heap _ _ _ _ _ _ HZ7.out) Try.underlying27 size_msg) rfl (decQ_none (below_setRow HB7.out (Nat.le_refl _) _))
        · obtain rfl : q = some m := by
            rw [HQ.out, HRAWT.out]
            exact if_neg (by show ¬ (false = true ∨ lt ≠ [] ∨ isNode m.fr = false ∨ isNode m.tt = false); rw [HF1.out, HF2.out, c3, c4, hlt]; simp)
          clear HQ HRAWT
          go_wp2_with fail
          refine (node_calls x0 W).mono ?_
          rintro e w6 ⟨rfl, md, hw6⟩
          rw [c3]
          have HZ6 : Aside0 (w6.heap[w.heap.size]? = some (.cells (mcells M0 (.slice none 0 0) (.slice none 0 0)) 27 (0, 0))) := ⟨by rw [hw6]; exact HZT.out⟩
          have HM6 : Aside0 (w6.heap[g + 1]? = some (.cells (mcells m (.slice none 0 0) (.slice A11 n11 c11)) 27 (0, 0))) := ⟨by rw [hw6]; exact HMT.out⟩
          have HB6 : Aside0 (Below w.heap.size w w6) := ⟨by rw [hw6]; exact pw_below_drewN HBT.out md⟩
          have HK6 : Aside0 (Kept W w6 (fun k => k = w.heap.size)) := ⟨by rw [hw6]; exact (Kept.refl _ _).drewN md⟩
          have t6 : w6.cell? ⟨g + 1, 2, none⟩ = some (.int .i64 x1) := by rw [hw6]; exact t3
          clear hw6
          go_wp2_with fail
          refine (node_calls x1 w6).mono ?_
          rintro e w7 ⟨rfl, md, hw7⟩
          rw [c4]
          have HZ7 : Aside0 (w7.heap[w.heap.size]? = some (.cells (mcells M0 (.slice none 0 0) (.slice none 0 0)) 27 (0, 0))) := ⟨by rw [hw7]; exact HZ6.out⟩
          have HM7 : Aside0 (w7.heap[g + 1]? = some (.cells (mcells m (.slice none 0 0) (.slice A11 n11 c11)) 27 (0, 0))) := ⟨by rw [hw7]; exact HM6.out⟩
          have HB7 : Aside0 (Below w.heap.size w w7) := ⟨by rw [hw7]; exact pw_below_drewN HB6.out md⟩
          have HK7 : Aside0 (Kept W w7 (fun k => k = w.heap.size)) := ⟨by rw [hw7]; exact HK6.out.drewN md⟩
          clear hw7
          go_wp2_with (first
            | refine wpList_load_row rfl 27 _ rfl (g + 1) rfl 27 (mcells m (.slice none 0 0) (.slice A11 n11 c11)) (0, 0) _ HM7.out Try.underlying27 rfl size_msg ?_
            | refine wpList_store_row rfl 27 _ _ rfl w.heap.size (mcells m (.slice none 0 0) (.slice A11 n11 c11)) rfl rfl 27 _ HZ7.out size_msg rfl (one_cells _ _ _ _ _ _ _) ?_)

          exact bodyPost_ret (results_two rfl _ _ w.heap.size 27 (mcells m (.slice none 0 0) (.slice A11 n11 c11)) (0, 0) (.int .i64 0) rfl rfl (setRow_heap _ _ _ _ _ _ HZ7.out) Try.underlying27 size_msg) rfl (decQ_some HE8.out HS11.out (HK7.out.then_ (kept_setRow _ _ _) (fun _ h => .inl h)) (by have := HGG.out; omega) (below_setRow HB7.out (Nat.le_refl _) _))
      · have c2' : 0 < n' := by omega
        obtain rfl : q = none := by rw [HQ.out, HRAWT.out]; exact if_pos (.inr (.inl (by show lt ≠ []; intro he; rw [he] at HN'; exact c2 HN'.out)))
        clear HQ HRAWT
        go_wp2_with (refine wpList_store_row rfl 27 _ _ rfl w.heap.size #[.int .i64 0, .int .i64 0, .int .i64 0, .int .i64 0, .int .i64 0, .int .i64 0, .int .i64 0, .bool false, .slice none 0 0, .int .i64 0, .int .i64 0, .slice none 0 0, .string ⟨#[]⟩] rfl rfl 27 _ HZT.out size_msg rfl (one_cells M0 none 0 0 none 0 0) ?_)

        exact bodyPost_ret (results_two rfl _ _ w.heap.size 27 #[.int .i64 0, .int .i64 0, .int .i64 0, .int .i64 0, .int .i64 0, .int .i64 0, .int .i64 0, .bool false, .slice none 0 0, .int .i64 0, .int .i64 0, .slice none 0 0, .string ⟨#[]⟩] (0, 0) (.int .i64 7) rfl rfl (setRow_heap _ _ _ _ _ _ HZT.out) Try.underlying27 size_msg) rfl (decQ_none (below_setRow HBT.out (Nat.le_refl _) _))
    · obtain rfl : q = none := by rw [HQ.out, HRAWT.out]; exact if_pos (.inl rfl)
      clear HQ HRAWT
      go_wp2_with (refine wpList_store_row rfl 27 _ _ rfl w.heap.size #[.int .i64 0, .int .i64 0, .int .i64 0, .int .i64 0, .int .i64 0, .int .i64 0, .int .i64 0, .bool false, .slice none 0 0, .int .i64 0, .int .i64 0, .slice none 0 0, .string ⟨#[]⟩] rfl rfl 27 _ HZT.out size_msg rfl (one_cells M0 none 0 0 none 0 0) ?_)

      exact bodyPost_ret (results_two rfl _ _ w.heap.size 27 #[.int .i64 0, .int .i64 0, .int .i64 0, .int .i64 0, .int .i64 0, .int .i64 0, .int .i64 0, .bool false, .slice none 0 0, .int .i64 0, .int .i64 0, .slice none 0 0, .string ⟨#[]⟩] (0, 0) (.int .i64 7) rfl rfl (setRow_heap _ _ _ _ _ _ HZT.out) Try.underlying27 size_msg) rfl (decQ_none (below_setRow HBT.out (Nat.le_refl _) _))
end Go.Proofs.Ytbemfgpdfacdpaa.Ms
namespace Go.Proofs.Ytbemfgpdfacdpaa.Ms
open Go.RowKit Go.Proofs.Ytbemfgpdfacdpaa.Pr Go.Proofs.YtbemfgpdfacdpaaW.PrintWords Go.Proofs.YtbemfgpdfacdpaaW.PrintLast Go.Proofs.YtbemfgpdfacdpaaW.PrintMore
set_option linter.unusedVariables false
set_option linter.unusedSimpArgs false
theorem rd_get (l : List Int) (i : Nat) : rd l (i : Int) = l.getD i 0 := by simp [rd]
theorem drop_same (l r : List Int) (i : Nat) (h : i < l.length) (hr : i < r.length) : (l.drop i = r.drop i) ↔ (l.getD i 0 = r.getD i 0 ∧ l.drop (i + 1) = r.drop (i + 1)) := by
  rw [List.drop_eq_getElem_cons h, List.drop_eq_getElem_cons hr, List.cons.injEq]
  simp [h, hr]
theorem equal_l (l r : List Int) (hl : l.length ≤ 4611686018427387904) (he : l.length = r.length) : ∀ (m i : Nat), i + m = l.length → slices_Equal_int_int.l0 (m + 1) l r (l.length : Int) i = some (decide (l.drop i = r.drop i))
  | 0, i, h => by
    rw [slices_Equal_int_int.l0, if_neg (by omega), List.drop_eq_nil_of_le (by omega), List.drop_eq_nil_of_le (by omega)]
    rfl
  | m + 1, i, h => by
    rw [slices_Equal_int_int.l0, if_pos (by omega), if_pos (by omega), if_pos (by omega), if_pos (by omega), rd_get, rd_get, show wrap64 ((i : Int) + 1) = ((i + 1 : Nat) : Int) by unfold wrap64; omega]
    have hd := drop_same l r i (by omega) (by omega)
    by_cases hc : l.getD i 0 = r.getD i 0
    · rw [if_pos hc, equal_l l r hl he m (i + 1) (by omega)]
      congr 1
      exact decide_eq_decide.2 ⟨fun h => hd.2 ⟨hc, h⟩, fun h => (hd.1 h).2⟩
    · rw [if_neg hc]
      congr 1
      exact (decide_eq_false (fun h => hc (hd.1 h).1)).symm
theorem equal_f (l r : List Int) (hl : l.length ≤ 4611686018427387904) : slices_Equal_int_int.f (l.length + 1) l r = some (decide (l = r)) := by
  rw [slices_Equal_int_int.f]
  by_cases he : l.length = r.length
  · rw [if_pos (by omega)]
    have := equal_l l r hl he l.length 0 (by omega)
    simpa using this
  · rw [if_neg (by omega)]
    congr 1
    exact (decide_eq_false (fun h => he (by rw [h]))).symm
theorem bytes_toList {a b : ByteArray} : a.toList = b.toList ↔ a = b := by
  constructor
  · intro h
    rw [ByteArray.toList_eq, ByteArray.toList_eq] at h
    exact ByteArray.ext (Array.ext' h)
  · rintro rfl; rfl
def sameP (a b : M13) : Bool := decide (a.kd = b.kd ∧ a.fr = b.fr ∧ a.tt = b.tt ∧ a.tm = b.tm ∧ a.ix = b.ix ∧ a.lt = b.lt ∧ a.cm = b.cm ∧ a.si = b.si ∧ a.st = b.st ∧ a.ys = b.ys ∧ a.sd = b.sd ∧ a.sm = b.sm ∧ a.es.length = b.es.length)
theorem same_f (a b : M13) (hl : a.sm.length ≤ 4611686018427387904) :
    msg_same.f (a.sm.length + 1) a.kd a.fr a.tt a.tm a.ix a.lt a.cm a.ys a.es a.si a.st a.sm a.sd b.kd b.fr b.tt b.tm b.ix b.lt b.cm b.ys b.es b.si b.st b.sm b.sd = some (sameP a b) := by
  simp only [msg_same.f, msg_flat.f, Option.bind_some, equal_f _ _ hl]
  split
  · rename_i h
    simp only [Bool.and_eq_true, beq_iff_eq, bytes_toList] at h
    obtain ⟨h1, h2, h3, h4, h5, h6, h7, h8, h9, h10, h11⟩ := h
    by_cases hs : a.sm = b.sm
    · rw [if_pos (decide_eq_true hs)]
      congr 1
      unfold sameP
      rw [Bool.eq_iff_iff]
      simp [h1, h2, h3, h4, h5, h6, h7, h8, h9, h10, h11, hs]
      omega
    · rw [if_neg (by simp [hs])]
      congr 1
      exact (decide_eq_false (fun h => hs h.2.2.2.2.2.2.2.2.2.2.2.1)).symm
  · rename_i h
    congr 1
    refine (decide_eq_false (fun hh => h ?_)).symm
    obtain ⟨h1, h2, h3, h4, h5, h6, h7, h8, h9, h10, h11, _⟩ := hh
    simp [h1, h2, h3, h4, h5, h6, h7, h8, h9, h10, h11]
end Go.Proofs.Ytbemfgpdfacdpaa.Ms
