/- The walk of hash. -/
import Derived.Test.YtlonhkechpgbiaaSha3
namespace Go.Proofs.Ytlonhkechpgbiaa.Sh
open Go.RowKit Go.Proofs.Ytlonhkechpgbiaa.Pr Go.Proofs.YtlonhkechpgbiaaW.PrintWords Go.Proofs.YtlonhkechpgbiaaW.PrintLast Go.Proofs.YtlonhkechpgbiaaW.PrintMore
set_option linter.unusedVariables false
set_option linter.unusedSimpArgs false
/-- An array of bytes. -/
def u8s (L : List Int) : Array Value := (L.map (Value.int .u8)).toArray
theorem u8s_get (L : List Int) (i : Nat) (h : i < L.length) : (u8s L)[i]? = some (.int .u8 (L.getD i 0)) := by
  simp [u8s, h]
theorem u8s_set (L : List Int) (i : Nat) (x : Int) : (u8s L).setIfInBounds i (.int .u8 x) = u8s (L.set i x) := by
  simp [u8s, List.map_set]
theorem u8s_size (L : List Int) : (u8s L).size = L.length := by simp [u8s]
theorem u8s_one (L : List Int) : (u8s L).all (·.oneCell') = true := by
  simp [u8s, Value.oneCell']
theorem info32 {L : List Int} (h : L.length = 32) : (Try.prog.info? 27).map (·.size) = some (u8s L).size := by
  rw [u8s_size, h]; kernel_rfl
def ArrB (w : World) (g T : Nat) (L : List Int) : Prop := w.heap[g]? = some (.cells (u8s L) T (0, 0))
theorem ArrB.cell {w g T L} (h : ArrB w g T L) (i : Nat) (hi : i < L.length) : w.cell? ⟨g, i, none⟩ = some (.int .u8 (L.getD i 0)) := (blk_cell h i).trans (u8s_get L i hi)
theorem ArrB.fr {w g T L} (h : ArrB w g T L) (i : Nat) : w.frozen? ⟨g, i, none⟩ = false := blk_frozen h i
theorem ArrB.set {w g T L} (h : ArrB w g T L) (i : Nat) (x : Int) : ArrB (w.setCell ⟨g, i, none⟩ (.int .u8 x)) g T (L.set i x) := by
  have := blk_set h i (.int .u8 x); rw [u8s_set] at this; exact this
theorem idx8 (s0 s1 s2 s3 s4 s5 s6 s7 : Int) (k : Nat) (hk : k < 8) : ∀ w, (Instr.index 34 (.agg #[.int .u32 s0, .int .u32 s1, .int .u32 s2, .int .u32 s3, .int .u32 s4, .int .u32 s5, .int .u32 s6, .int .u32 s7]) (.int .i64 k)).run Try.prog w = .ok (.int .u32 ([s0, s1, s2, s3, s4, s5, s6, s7].getD k 0)) w := by
  match k, hk with
  | 0, _ => exact fun _ => by kernel_rfl
  | 1, _ => exact fun _ => by kernel_rfl
  | 2, _ => exact fun _ => by kernel_rfl
  | 3, _ => exact fun _ => by kernel_rfl
  | 4, _ => exact fun _ => by kernel_rfl
  | 5, _ => exact fun _ => by kernel_rfl
  | 6, _ => exact fun _ => by kernel_rfl
  | 7, _ => exact fun _ => by kernel_rfl

def hashL (L : List Int) : Nat → List Int
  | 0 => List.replicate 32 0
  | k + 1 => (((hashL L k |>.set (4 * k) (L.getD k 0 / 16777216 % 256)).set (4 * k + 1) (L.getD k 0 / 65536 % 256)).set (4 * k + 2) (L.getD k 0 / 256 % 256)).set (4 * k + 3) (L.getD k 0 % 256)
theorem hashL_length (L : List Int) : ∀ k, (hashL L k).length = 32
  | 0 => by simp [hashL]
  | k + 1 => by simp [hashL, hashL_length L k]
set_option maxHeartbeats 4000000 in
set_option maxRecDepth 100000 in
theorem hash_calls (g : Nat) (s : S8) (b : Bool) (RR : Value) (n : Int) (w0 : World) (h : DigL w0 g s.list b RR n) :
    Calls Try.prog 23 #[.pointer (some ⟨g, 0, none⟩)] w0 fun e w' => e = .returned (.agg (u8s (hashL (begun b s).list 8))) ∧ DigL w' g (begun b s).list true RR n ∧ Keep w0 w' g := by
  have H := Aside0.mk h
  have HGE : Aside0 (g < w0.heap.size) := ⟨blk_lt h⟩
  clear h
  obtain ⟨bs, hbs⟩ : ∃ bs, bs = begun b s := ⟨_, rfl⟩
  have HBS := Aside0.mk hbs
  rw [← hbs]
  clear hbs
  go_enter Try.func23, Try.ntmps23
  go_wp2_with fail
  refine (begin_calls g s b RR n _ (blk_alloc H.out _)).mono ?_
  rintro e w ⟨rfl, hD, hK0⟩
  rw [← HBS.out] at hD
  obtain ⟨s0, s1, s2, s3, s4, s5, s6, s7⟩ := bs
  have H : Aside0 (Dig w g s0 s1 s2 s3 s4 s5 s6 s7 true RR n) := ⟨hD⟩
  have HK0 := Aside0.mk hK0
  clear hD hK0 HBS
  have c0 := (blk_cell H.out 0).trans rfl
  have c1 := (blk_cell H.out 1).trans rfl
  have c2 := (blk_cell H.out 2).trans rfl
  have c3 := (blk_cell H.out 3).trans rfl
  have c4 := (blk_cell H.out 4).trans rfl
  have c5 := (blk_cell H.out 5).trans rfl
  have c6 := (blk_cell H.out 6).trans rfl
  have c7 := (blk_cell H.out 7).trans rfl
  go_wp2
  obtain ⟨p, hp⟩ : ∃ p, p = w0.heap.size := ⟨_, rfl⟩
  rw [← hp]
  have HO : Aside0 (ArrB w p 27 (List.replicate 32 0)) := ⟨by rw [hp]; exact HK0.out.k.blk (blk_new _ _) (Nat.ne_of_gt HGE.out) (by simp)⟩
  have HPG : Aside0 (g < p) := ⟨by rw [hp]; exact HGE.out⟩
  have HP := Aside0.mk hp
  clear hp c0 c1 c2 c3 c4 c5 c6 c7
  go_loopg [11] 8 (fun gk v11 wr => ∃ (k : Nat), v11 = .int .i64 k ∧ Aside0 (k ≤ 8) ∧ Aside0 (8 - k ≤ gk) ∧ Aside0 (ArrB wr p 27 (hashL [s0, s1, s2, s3, s4, s5, s6, s7] k)) ∧ Aside0 (KeepBut w wr p none) ∧ Aside0 (Below p w wr))
  case atStart => exact ⟨0, rfl, ⟨by omega⟩, ⟨by omega⟩, HO, ⟨KeepBut.refl _ _ _⟩, ⟨Below.refl _ _⟩⟩
  case round =>
    clear HO
    obtain ⟨k, rfl, Hk, HG, HO, HKP, HBP⟩ := hrel
    have hk := Hk.out
    by_cases hlt : k < 8
    · have e1 : decide (k < 8) = true := decide_eq_true hlt
      have z1 : (k : Int) < 8 := by omega
      have hx8 := idx8 s0 s1 s2 s3 s4 s5 s6 s7 k hlt
      obtain ⟨x, hx⟩ : ∃ x, x = [s0, s1, s2, s3, s4, s5, s6, s7].getD k 0 := ⟨_, rfl⟩
      rw [← hx] at hx8
      have HX := Aside0.mk hx
      clear hx
      obtain ⟨O, hO⟩ : ∃ O, O = hashL [s0, s1, s2, s3, s4, s5, s6, s7] k := ⟨_, rfl⟩
      have hO32 : O.length = 32 := by rw [hO]; exact hashL_length _ k
      have HO' : Aside0 (ArrB wr p 27 O) := ⟨by rw [hO]; exact HO.out⟩
      have m0 := HO'.out.cell (4 * k) (by omega)
      have m1 := HO'.out.cell (4 * k + 1) (by omega)
      have m2 := HO'.out.cell (4 * k + 2) (by omega)
      have m3 := HO'.out.cell (4 * k + 3) (by omega)
      have f0 := HO'.out.fr (4 * k)
      have f1 := HO'.out.fr (4 * k + 1)
      have f2 := HO'.out.fr (4 * k + 2)
      have f3 := HO'.out.fr (4 * k + 3)
      have HOO := Aside0.mk hO
      clear hO hO32 HO
      have a0 : IntKind.i64.wrap (4 * (k : Int)) = 4 * (k : Int) := IntWalk.i64_in _ (by omega)
      have a1 : IntKind.i64.wrap (4 * (k : Int) + 1) = 4 * (k : Int) + 1 := IntWalk.i64_in _ (by omega)
      have a2 : IntKind.i64.wrap (4 * (k : Int) + 2) = 4 * (k : Int) + 2 := IntWalk.i64_in _ (by omega)
      have a3 : IntKind.i64.wrap (4 * (k : Int) + 3) = 4 * (k : Int) + 3 := IntWalk.i64_in _ (by omega)
      have b0 : 0 ≤ 4 * (k : Int) := by omega
      have b1 : 0 ≤ 4 * (k : Int) + 1 := by omega
      have b2 : 0 ≤ 4 * (k : Int) + 2 := by omega
      have b3 : 0 ≤ 4 * (k : Int) + 3 := by omega
      have d0 : 4 * (k : Int) < 32 := by omega
      have d1 : 4 * (k : Int) + 1 < 32 := by omega
      have d2 : 4 * (k : Int) + 2 < 32 := by omega
      have d3 : 4 * (k : Int) + 3 < 32 := by omega
      have t0 : (4 * (k : Int)).toNat = 4 * k := by omega
      have t1 : (4 * (k : Int) + 1).toNat = 4 * k + 1 := by omega
      have t2 : (4 * (k : Int) + 2).toNat = 4 * k + 2 := by omega
      have t3 : (4 * (k : Int) + 3).toNat = 4 * k + 3 := by omega
      go_wp2
      go_roundg (8 - (k + 1))
      case measure => have := HG.out; omega
      case rel =>
        refine ⟨k + 1, by go_num, ⟨by omega⟩, ⟨Nat.le_refl _⟩, ⟨?_⟩, ⟨?_⟩, ⟨?_⟩⟩
        · rw [hashL, ← HX.out, ← HOO.out]
          exact ArrB.set (ArrB.set (ArrB.set (ArrB.set HO'.out _ _) _ _) _ _) _ _
        · exact KeepBut.set_ (KeepBut.set_ (KeepBut.set_ (KeepBut.set_ HKP.out _ _) _ _) _ _) _ _
        · exact (((HBP.out.setCell (Nat.le_refl _) _).setCell (Nat.le_refl _) _).setCell (Nat.le_refl _) _).setCell (Nat.le_refl _) _
    · have e1 : decide (k < 8) = false := decide_eq_false hlt
      have hk8 : k = 8 := by omega
      subst hk8
      obtain ⟨O, hO⟩ : ∃ O, O = hashL [s0, s1, s2, s3, s4, s5, s6, s7] 8 := ⟨_, rfl⟩
      have hO32 : O.length = 32 := by rw [hO]; exact hashL_length _ 8
      have HO' : Aside0 (ArrB wr p 27 O) := ⟨by rw [hO]; exact HO.out⟩
      have HOO := Aside0.mk hO
      have HI := Aside0.mk (info32 hO32)
      clear hO hO32 HO e1 hlt hk
      go_wp2_with (first | (refine wpList_load_row rfl 27 _ rfl p rfl 27 (u8s O) (0, 0) _ HO'.out Try.underlying27 rfl HI.out ?_) | (refine wpList_store_row rfl 27 _ _ rfl p (u8s O) rfl rfl 27 (u8s O) HO'.out HI.out rfl (u8s_one O) ?_; rw [setRow_self _ _ _ _ _ HO'.out]))
      refine bodyPost_ret (v := .agg (u8s O)) (results_cell_row rfl _ _ p 27 (u8s O) (0, 0) _ rfl HO'.out Try.underlying27 rfl HI.out) rfl ⟨by rw [HOO.out]; rfl, HKP.out.blk H.out (Nat.ne_of_lt HPG.out) (by simp), ?_, ?_⟩
      · refine ⟨Nat.le_trans (Nat.le_trans (by simp) HK0.out.k.1) HKP.out.1, fun i hi hne hr => ?_⟩
        have h1 := HKP.out.2 i (Nat.lt_of_lt_of_le (Nat.lt_of_lt_of_le hi (by simp)) HK0.out.k.1) (by rw [HP.out]; exact Nat.ne_of_lt hi) (by simp)
        have h2 := HK0.out.k.2 i (Nat.lt_of_lt_of_le hi (by simp)) hne hr
        exact h1.trans (h2.trans (Below.heap_alloc w0 _ i hi))
      · exact (((Below.refl g w0).alloc (Nat.le_of_lt HGE.out) _).trans HK0.out.b).trans (HBP.out.mono (Nat.le_of_lt HPG.out))
end Go.Proofs.Ytlonhkechpgbiaa.Sh
