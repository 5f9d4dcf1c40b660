/- The walk of a writer: entries. -/
import Derived.Test.YtbemfgpdfacdpaaMsg6
namespace Go.Proofs.Ytbemfgpdfacdpaa.Ms
open Go.RowKit Go.Proofs.Ytbemfgpdfacdpaa.Pr Go.Proofs.YtbemfgpdfacdpaaW.PrintWords Go.Proofs.YtbemfgpdfacdpaaW.PrintLast Go.Proofs.YtbemfgpdfacdpaaW.PrintMore
open Go.Proofs.Ytbemfgpdfacdpaa.QT (OwnAt)
set_option linter.unusedVariables false
set_option linter.unusedSimpArgs false
def wentry (e : S46) : List Int := wints [e.f0, e.f1, e.f2] ++ (wtext e.f3 ++ wmem e.f4)
def oddE (e : S46) : Bool := [e.f0, e.f1, e.f2].any (fun x => decide (x < 0)) || (decide (4000 < e.f3.size) || (decide (9 < e.f4.length) || e.f4.any (fun x => decide (x < 0))))
def wents (es : List S46) : List Int := wnum es.length 1 ++ es.flatMap wentry
theorem flat_take (es : List S46) (i : Nat) (h : i < es.length) : (es.take (i + 1)).flatMap wentry = (es.take i).flatMap wentry ++ wentry (rd_T46 es i) := by
  rw [List.take_succ_eq_append_getElem h, List.flatMap_append, List.flatMap_singleton]
  simp [rd_T46, h]
theorem any_takeE (es : List S46) (i : Nat) (h : i < es.length) (bad : Bool) : (bad || (es.take (i + 1)).any oddE) = ((bad || (es.take i).any oddE) || oddE (rd_T46 es i)) := by
  rw [List.take_succ_eq_append_getElem h, List.any_append]
  simp [rd_T46, h, Bool.or_assoc]
theorem flat_len (es : List S46) (i : Nat) (h : i < es.length) : ((es.take i).flatMap wentry).length + (wentry (rd_T46 es i)).length ≤ (es.flatMap wentry).length := by
  have h1 : es.flatMap wentry = (es.take (i + 1)).flatMap wentry ++ (es.drop (i + 1)).flatMap wentry := by
    rw [← List.flatMap_append, List.take_append_drop]
  rw [h1, flat_take es i h]
  simp only [List.length_append]
  omega
theorem Wr.below {w w' : World} {g : Nat} {l : List Int} {bad : Bool} (h : Wr w g l bad) (hb : Below w.heap.size w w') : Wr w' g l bad := by
  obtain ⟨A, n, c, h1, h2, h3, h4⟩ := h
  exact ⟨A, n, c, blk_below h1 hb, h2, h3, h4.below hb⟩
theorem C_boxL {w : World} {b : Nat} {t : TypeId} {xs : List Int} (hb : w.heap[b]? = some (.cells (xs.map (Value.int .i64)).toArray t (0, 0))) (hl : xs.length ≤ 9) : (Kd.int .i64).C w (some ⟨b, 0, none⟩) xs.length xs := by
  refine Kd.C_of_reads (d := (0 : Int)) (h1 := fun _ => rfl) ⟨rfl, by omega, fun h0 => ⟨_, rfl, fun j hj => ?_⟩⟩
  rw [show (⟨b, 0, none⟩ : Addr).add j = ⟨b, 0 + j, none⟩ by unfold Addr.add; split <;> simp_all, Nat.zero_add]
  refine (blk_cell hb j).trans ?_
  have hj : j < xs.length := hj
  simp [hj]
theorem C_box {w : World} {b : Nat} {t : TypeId} {x0 x1 x2 : Int} (hb : w.heap[b]? = some (.cells #[.int .i64 x0, .int .i64 x1, .int .i64 x2] t (0, 0))) : (Kd.int .i64).C w (some ⟨b, 0, none⟩) [x0, x1, x2].length [x0, x1, x2] := C_boxL hb (by simp)
set_option maxHeartbeats 2000000 in
set_option maxRecDepth 100000 in
theorem wents_calls (w0 w : World) (g : Nat) (l : List Int) (bad : Bool) (A : Option Addr) (n c : Nat) (es : List S46) (h : Wr w g l bad) (hC : k46.C w0 A es.length es) (hg : w0.heap.size ≤ g) (hB : Below w0.heap.size w0 w) (hn : n = es.length) (hc : n ≤ c) (hv : n ≤ 140737488355328) (hl : l.length + (wents es).length ≤ 140737488300000) :
    Calls Try.prog 20 #[.pointer (some ⟨g, 0, none⟩), .slice A n c] w (WrQ w g (l ++ wents es) ((bad || decide (8 < es.length)) || es.any oddE)) := by
  have HR := Aside0.mk h
  have HC := Aside0.mk hC
  have HG := Aside0.mk hg
  have HB := Aside0.mk hB
  have HN := Aside0.mk hn
  have HL := Aside0.mk hl
  obtain ⟨A', n', c', hb', hrd⟩ := h
  have m1 : w.cell? ⟨g, 1, none⟩ = some (.bool bad) := blk_cell hb' 1
  have f1 := blk_frozen hb' 1
  have HD : Aside0 (decide ((8 : Int) < (n : Int)) = decide (8 < es.length)) := ⟨by rw [HN.out]; exact decide_eq_decide.2 (by omega)⟩
  obtain ⟨nb, hnb⟩ : ∃ nb, nb = (bad || decide (8 < es.length)) := ⟨_, rfl⟩
  rw [← hnb]
  have HNB := Aside0.mk hnb
  have HGW : Aside0 (g < w.heap.size) := ⟨blk_lt hb'⟩
  clear hC hg hB hn hl hb' hrd hnb
  cases bad
  all_goals
    go_enter Try.func20, Try.ntmps20
    go_upto_region 1 with (fail)
    generalize hwb : World.setCell w _ _ = w2
    have HR2 : Aside0 (Wr w2 g l nb) := ⟨by rw [HNB.out, ← hwb, ← HD.out]; exact HR.out.setBad _⟩
    have HW2 : Aside0 (WK w w2 g) := ⟨by rw [← hwb]; exact (WK.refl _ _).set 1 _⟩
    clear hwb HR m1 f1
    go_wp2_with fail
    refine (wnum_calls w2 g l _ n 1 HR2.out (by decide) (by have := HL.out; omega)).mono ?_
    rintro e w3 ⟨rfl, hR3, hW3⟩
    have HR3 := Aside0.mk hR3
    have HW3 := Aside0.mk (HW2.out.trans hW3)
    clear hR3 hW3 HR2 HW2
    go_wp2_with fail
    go_loopg [26] n (fun gk v26 wr => ∃ (i : Nat), v26 = .int .i64 i ∧ Aside0 (i ≤ n) ∧ Aside0 (n - i ≤ gk) ∧ Aside0 (Wr wr g (l ++ wnum n 1 ++ (es.take i).flatMap wentry) (nb || (es.take i).any oddE)) ∧ Aside0 (WK w wr g))
    case atStart => exact ⟨0, rfl, ⟨by omega⟩, ⟨by omega⟩, ⟨by simpa using HR3.out⟩, HW3⟩
    case round =>
      clear HR3 HW3
      obtain ⟨i, rfl, HI, HGK, HR, HW⟩ := hrel
      have hi := HI.out
      by_cases hlt : i < n
      · have l1 : decide (i < n) = true := decide_eq_true hlt
        have l2 : (i : Int) < (n : Int) := by omega
        have hCr : k46.C wr A es.length es := Kd.C_below HC.out (HB.out.trans ((HW.out.below (by have := HGW.out; omega)).mono HG.out))
        obtain ⟨ad, A4, c4, hA1, q0, q1, q2, q3, q4, q5, q6⟩ := at_T46 hCr (i : Int) (by omega) (by rw [← HN.out]; omega)
        subst hA1
        simp only [Int.toNat_natCast] at q0 q1 q2 q3 q4
        have hft := flat_take es i (by rw [← HN.out]; exact hlt)
        have hat := any_takeE es i (by rw [← HN.out]; exact hlt) nb
        have hfl := flat_len es i (by rw [← HN.out]; exact hlt)
        obtain ⟨E, hE⟩ : ∃ E, E = rd_T46 es (i : Int) := ⟨_, rfl⟩
        rw [← hE] at q0 q1 q2 q3 q4 q5 q6 hft hat hfl
        have hlen : (l ++ wnum n 1 ++ (es.take i).flatMap wentry).length + (wentry E).length ≤ 140737488300000 := by
          have := HL.out
          rw [wents, List.length_append, wnum_length] at this
          rw [List.length_append, List.length_append, wnum_length]
          omega
        obtain ⟨acc, hacc⟩ : ∃ acc, acc = l ++ wnum n 1 ++ (es.take i).flatMap wentry := ⟨_, rfl⟩
        obtain ⟨b0, hb0⟩ : ∃ b, b = (nb || (es.take i).any oddE) := ⟨_, rfl⟩
        rw [← hacc] at hlen
        have HR4 : Aside0 (Wr wr g acc b0) := ⟨by rw [hacc, hb0]; exact HR.out⟩
        have HFT : Aside0 (acc ++ wentry E = l ++ wnum n 1 ++ (es.take (i + 1)).flatMap wentry) := ⟨by rw [hft, hacc, List.append_assoc]⟩
        have HAT : Aside0 ((nb || (es.take (i + 1)).any oddE) = (b0 || oddE E)) := ⟨by rw [hat, hb0]⟩
        have HLEN := Aside0.mk hlen
        have H5 := Aside0.mk q5
        have HGR : Aside0 (g < wr.heap.size) := ⟨by have := HGW.out; have := HW.out.size; omega⟩
        have HC4 : Aside0 (∀ W', WK wr W' g → (Kd.int .i64).C W' A4 E.f4.length E.f4) := ⟨fun W' hW => by
          have hCr' : k46.C W' (some ad) es.length es := Kd.C_below HC.out (HB.out.trans (((HW.out.trans hW).below (by have := HGW.out; omega)).mono HG.out))
          obtain ⟨ad', A4', c4', hA1', _, _, _, _, q4', _, q6'⟩ := at_T46 hCr' (i : Int) (by omega) (by rw [← HN.out]; omega)
          cases hA1'
          rw [← hE] at q4' q6'
          simp only [Int.toNat_natCast] at q4'
          have hba : (ad.add (i * 5)).block < g := by
            obtain ⟨ad0, _, _, hA0, q00, _⟩ := at_T46 HC.out (i : Int) (by omega) (by rw [← HN.out]; omega)
            cases hA0
            simp only [Int.toNat_natCast] at q00
            exact Nat.lt_of_lt_of_le (World.block_lt_of_cell? _ _ q00) HG.out
          have : W'.cell? ⟨(ad.add (i * 5)).block, (ad.add (i * 5)).off + 4, none⟩ = wr.cell? ⟨(ad.add (i * 5)).block, (ad.add (i * 5)).off + 4, none⟩ := by
            have := (hW.below (by have := HGR.out; omega)).block _ hba
            simp [World.cell?, this]
          rw [this, q4] at q4'
          cases q4'
          exact q6'⟩
        obtain ⟨n4, hn4⟩ : ∃ n4, n4 = E.f4.length := ⟨_, rfl⟩
        rw [← hn4] at q4
        have HN4 := Aside0.mk hn4
        clear hft hat hfl hlen hacc hb0 hE hCr HR hn4
        go_upto_region 5 with (fail)
        generalize hwe : World.alloc wr _ = w5
        obtain ⟨ge, hge⟩ : ∃ ge, ge = wr.heap.size := ⟨_, rfl⟩
        rw [← hge]
        have HE5 : Aside0 (w5.heap[ge]? = some (.cells #[.int .i64 E.f0, .int .i64 E.f1, .int .i64 E.f2, .string E.f3, .slice A4 n4 c4] 46 (0, 0))) := ⟨by rw [← hwe, hge]; exact blk_new _ _⟩
        have HR5 : Aside0 (Wr w5 g acc b0) := ⟨by rw [← hwe]; exact HR4.out.below (below_alloc (Below.refl _ _) _)⟩
        have HW5 : Aside0 (WK wr w5 g) := ⟨by rw [← hwe]; exact (WK.refl _ _).alloc _⟩
        have HNE : Aside0 (ge ≠ g) := ⟨by have := HGR.out; omega⟩
        have p0 : w5.cell? ⟨ge, 0, none⟩ = some (.int .i64 E.f0) := blk_cell HE5.out 0
        have p1 : w5.cell? ⟨ge, 1, none⟩ = some (.int .i64 E.f1) := blk_cell HE5.out 1
        have p2 : w5.cell? ⟨ge, 2, none⟩ = some (.int .i64 E.f2) := blk_cell HE5.out 2
        have HGB : Aside0 (g < w5.heap.size) := ⟨Nat.lt_of_lt_of_le HGR.out HW5.out.size⟩
        clear hwe hge q0 q1 q2 q3 q4 HR4
        go_wp2_with fail
        have hle := HLEN.out
        rw [wentry, List.length_append, List.length_append, wints_length, wtext, List.length_append, wnum_length, bytesOf_length, wmem, List.length_append, wnum_length, wints_length] at hle
        have HLE := Aside0.mk hle
        clear hle
        refine (wints_calls _ g acc b0 (some ⟨w5.heap.size, 0, none⟩) 3 3 [E.f0, E.f1, E.f2] (HR5.out.below (below_alloc (Below.refl _ _) _)) (fun W' hW => C_box (hW.blk (blk_new w5 _) (by have := HGB.out; omega) (by decide))) rfl (by decide) (by decide) (by have := HLE.out; simp at this; omega)).mono ?_
        rintro e w6 ⟨rfl, hR6, hW6⟩
        have hW56 : WK w5 w6 g := ((WK.refl w5 g).alloc _).trans hW6
        have hE6 := hW56.blk HE5.out HNE.out (by decide)
        have HR6 := Aside0.mk hR6
        have HE6 := Aside0.mk hE6
        have HW6 := Aside0.mk (HW5.out.trans hW56)
        have p3 : w6.cell? ⟨ge, 3, none⟩ = some (.string E.f3) := blk_cell hE6 3
        clear hR6 hW6 hW56 hE6 HR5 HE5 HW5 p0 p1 p2
        go_wp2_with fail
        refine (wtext_calls w6 g _ _ E.f3 4000 HR6.out (by have := HLE.out; omega) (by rw [List.length_append, wints_length]; have := HLE.out; omega)).mono ?_
        rintro e w7 ⟨rfl, hR7, hW7⟩
        have hE7 := hW7.blk HE6.out HNE.out (by decide)
        have HR7 := Aside0.mk hR7
        have HE7 := Aside0.mk hE7
        have HW7 := Aside0.mk (HW6.out.trans hW7)
        have p4 : w7.cell? ⟨ge, 4, none⟩ = some (.slice A4 n4 c4) := blk_cell hE7 4
        clear hR7 hW7 hE7 HR6 HE6 HW6 p3
        go_wp2_with fail
        refine (wmem_calls w7 g _ _ A4 n4 c4 E.f4 HR7.out (fun W' hW => HC4.out W' (HW7.out.trans hW)) HN4.out (by rw [HN4.out]; exact H5.out) (by rw [HN4.out]; have := HLE.out; omega) (by rw [HN4.out, List.length_append, List.length_append, wints_length, wtext, List.length_append, wnum_length, bytesOf_length]; have := HLE.out; omega)).mono ?_
        rintro e w8 ⟨rfl, hR8, hW8⟩
        have hR8' : Wr w8 g (l ++ wnum n 1 ++ (es.take (i + 1)).flatMap wentry) (nb || (es.take (i + 1)).any oddE) := by
          rw [← HFT.out, HAT.out, wentry, oddE, ← List.append_assoc, ← List.append_assoc, ← Bool.or_assoc, ← Bool.or_assoc, ← Bool.or_assoc]
          exact hR8
        have HR8 := Aside0.mk hR8'
        have HW8 := Aside0.mk (HW.out.trans (HW7.out.trans hW8))
        clear hR8 hR8' hW8 HR7 HE7 HW7 p4 HFT HAT HLE HLEN HC4 HW
        go_wp2
        go_roundg (n - (i + 1))
        case measure => have := HGK.out; omega
        case rel => exact ⟨i + 1, by first | go_num | (rw [show wrap64 ((i : Int) + 1) = ((i + 1 : Nat) : Int) by unfold wrap64; omega]), ⟨by omega⟩, ⟨Nat.le_refl _⟩, HR8, HW8⟩
      · have l1 : decide (i < n) = false := decide_eq_false hlt
        have hin : es.take i = es := List.take_of_length_le (by rw [← HN.out]; omega)
        have fin : WrQ w g (l ++ wents es) (nb || es.any oddE) (.returned (.tuple #[])) wr := ⟨rfl, by have := HR.out; rw [hin, HN.out, List.append_assoc] at this; exact this, HW.out⟩
        have FIN := Aside0.mk fin
        clear fin hin
        go_wp2
        go_end0
        exact FIN.out
end Go.Proofs.Ytbemfgpdfacdpaa.Ms
