/- The law on two texts put together. -/
import Derived.Test.YtlhllcbglfffdaaDoorLexP6a
import Derived.Test.YtlhllcbglfffdaaDoorPr6
namespace Go.Proofs.YtlhllcbglfffdaaDoor.Pu
open Go.RowKit Go.Proofs.YtlhllcbglfffdaaDoor.Pr Go.Proofs.YtlhllcbglfffdaaDoorW.PrintWords Go.Proofs.YtlhllcbglfffdaaDoor.Lx
set_option linter.unusedVariables false
set_option linter.unusedSimpArgs false

theorem w10 : pBlank 10 = true ∧ pWord 10 = false := by decide +kernel
def upOut (n : Nat) (t0 : List Tk) : Out → Out
  | .bad j => .bad (n + j)
  | .good us => .good (t0 ++ us.map (upT n))
theorem ends_up (n m : Nat) (t0 : List Tk) (o : One) : ends (n + m) (upO n t0 o) = upOut n t0 (ends m o) := by
  cases o with
  | bad j => rfl
  | go st ts =>
    cases st with
    | sk => rfl
    | nt => rfl
    | wd a acc =>
      simp [upO, upS, ends, fin, upOut, upT]
      omega
    | qt a acc => rfl
    | es a p acc => rfl
theorem sm_join_good (A B : List Int) (ts : List Tk) (h : sm 0 .sk [] A = .good ts) : sm 0 .sk [] (A ++ 10 :: B) = upOut (A.length + 1) ts (sm 0 .sk [] B) := by
  rw [sm_rs] at h
  cases hr : rs 0 .sk [] A with
  | bad j => rw [hr] at h; cases h
  | go st ts' =>
    rw [hr] at h
    have s1 : step (0 + A.length) 10 st ts' = .go .sk ts := by
      cases st with
      | sk => simp only [ends, fin, Out.good.injEq] at h; subst h; simp only [step, st1, w10.1, if_true]
      | nt => simp only [ends, fin, Out.good.injEq] at h; subst h; rfl
      | wd a acc => simp only [ends, fin, Out.good.injEq] at h; subst h; simp only [step, st1, w10.1, w10.2, if_true]; rfl
      | qt a acc => cases h
      | es a p acc => cases h
    rw [sm_rs, rs_app_go hr, rs, s1]
    simp only
    have e := rs_up (A.length + 1) ts B 0 .sk []
    simp only [upS, List.map_nil, List.append_nil, Nat.add_zero] at e
    rw [show 0 + A.length + 1 = A.length + 1 by omega, e, sm_rs B 0, Nat.zero_add, Nat.zero_add, show (A ++ 10 :: B).length = (A.length + 1) + B.length by rw [List.length_append, List.length_cons]; omega, ends_up]
theorem sm_join_bad (A B : List Int) (j : Nat) (h : sm 0 .sk [] A = .bad j) : ∃ j', sm 0 .sk [] (A ++ 10 :: B) = .bad j' := by
  rw [sm_rs] at h
  cases hr : rs 0 .sk [] A with
  | bad j' => exact ⟨j', by rw [sm_rs, rs_app_bad hr]; rfl⟩
  | go st ts' =>
    rw [hr] at h
    cases st with
    | sk => cases h
    | nt => cases h
    | wd a acc => cases h
    | qt a acc => exact ⟨0 + A.length, by rw [sm_rs, rs_app_go hr, rs]; rfl⟩
    | es a p acc => exact ⟨p, by rw [sm_rs, rs_app_go hr, rs]; rfl⟩
def joinT (a b : ByteArray) : ByteArray := a ++ (⟨#[10]⟩ : ByteArray) ++ b
theorem bytes_join (a b : ByteArray) : bytesOf (joinT a b) = bytesOf a ++ 10 :: bytesOf b := by
  have : bytesOf (⟨#[10]⟩ : ByteArray) = [10] := by decide +kernel
  unfold joinT
  rw [bytesOf_app, bytesOf_app, this, List.append_assoc]; rfl
theorem size_join (a b : ByteArray) : (joinT a b).size = a.size + 1 + b.size := by
  have : (⟨#[10]⟩ : ByteArray).size = 1 := rfl
  unfold joinT
  rw [ByteArray.size_append, ByteArray.size_append, this]
theorem brk_join (a b : ByteArray) : brkL (joinT a b).data.toList = if brkL a.data.toList = a.size then a.size + 1 + brkL b.data.toList else brkL a.data.toList := by
  rw [← toU_bytes, bytes_join, toU_app, toU_bytes, show toU (10 :: bytesOf b) = (10 : UInt8) :: toU (bytesOf b) from rfl, toU_bytes, brkL_cut _ _ (by decide) _ _ (Nat.le_refl _), data_length]
theorem join_good (a b : ByteArray) (hs : a.size + b.size ≤ 2000) (ts : List Tk) (hv : V (bytesOf a)) (hg : sm 0 .sk [] (bytesOf a) = .good ts) :
    tokM (joinT a b) = (if (tokM b).2.1 = 0 then (ts ++ (tokM b).1.map (upT (a.size + 1)), 0, 0) else ([], (tokM b).2.1, (((a.size + 1 : Nat) : Int) + (tokM b).2.2))) := by
  have hsz := size_join a b
  have hw : wrongN (joinT a b).data.toList = a.size + 1 + wrongN b.data.toList := by
    unfold wrongN
    rw [brk_join, if_pos ((V_bytes a).1 hv), data_length, data_length, hsz]
    by_cases q : brkL b.data.toList = b.size
    · rw [if_pos q, if_pos (by omega)]; omega
    · rw [if_neg q, if_neg (by omega)]
  have e8 : ¬ ((8 : Int) = 0) := by omega
  cases hsB : sm 0 .sk [] (bytesOf b) with
  | bad j =>
    have tb : tokM b = ([], 8, min (wrongN b.data.toList : Int) (j : Int)) := by unfold tokM; rw [if_neg (by omega), hsB]
    rw [tb]
    simp only [e8, if_false]
    unfold tokM
    rw [if_neg (by omega), bytes_join, sm_join_good _ _ ts hg, hsB, bytesOf_length, hw]
    simp only [upOut]
    congr 2
    omega
  | good us =>
    by_cases q : (wrongN b.data.toList : Int) ≤ (b.size : Int)
    · have tb : tokM b = ([], 8, (wrongN b.data.toList : Int)) := by unfold tokM; rw [if_neg (by omega), hsB]; simp only; rw [if_pos q]
      rw [tb]
      simp only [e8, if_false]
      unfold tokM
      rw [if_neg (by omega), bytes_join, sm_join_good _ _ ts hg, hsB, bytesOf_length, hw]
      simp only [upOut]
      rw [if_pos (by omega)]
      congr 2
    · have tb : tokM b = (us, 0, 0) := by unfold tokM; rw [if_neg (by omega), hsB]; simp only; rw [if_neg q]
      rw [tb]
      simp only [if_true]
      unfold tokM
      rw [if_neg (by omega), bytes_join, sm_join_good _ _ ts hg, hsB, bytesOf_length, hw]
      simp only [upOut]
      rw [if_neg (by omega)]
theorem join_bad (a b : ByteArray) (hs : a.size + b.size ≤ 2000) (h : ∀ ts, ¬ (V (bytesOf a) ∧ sm 0 .sk [] (bytesOf a) = .good ts)) : ∃ e : Int, tokM (joinT a b) = ([], 8, e) := by
  have hsz := size_join a b
  unfold tokM
  rw [if_neg (by omega)]
  cases hg : sm 0 .sk [] (bytesOf a) with
  | bad j =>
    obtain ⟨j', hj⟩ := sm_join_bad (bytesOf a) (bytesOf b) j hg
    rw [bytes_join, hj]
    exact ⟨_, rfl⟩
  | good ts =>
    have hv : ¬ V (bytesOf a) := fun hv => h ts ⟨hv, hg⟩
    have hb : brkL a.data.toList ≠ a.size := fun e => hv ((V_bytes a).2 e)
    have hle := brkL_le a.data.toList
    rw [data_length] at hle
    have hw : wrongN (joinT a b).data.toList = brkL a.data.toList := by
      unfold wrongN
      rw [brk_join, if_neg hb, data_length, hsz, if_neg (by omega)]
    rw [hw]
    cases sm 0 .sk [] (bytesOf (joinT a b)) with
    | bad j => exact ⟨_, rfl⟩
    | good us =>
      simp only
      rw [if_pos (by omega)]
      exact ⟨_, rfl⟩
theorem same_loop (l : List Tk) (hl : l.length ≤ 1000000) (d : Nat) : ∀ i : Nat, i ≤ l.length → l.length - i ≤ d → Ev (fun k => parapetlaw19_same.l0 k l l (i : Int)) true := by
  have stop : ∀ i : Nat, i ≤ l.length → ¬ i < l.length → Ev (fun k => parapetlaw19_same.l0 k l l (i : Int)) true := by
    intro i hi hn
    refine Ev.step (f := fun _ => some true) (fun k => ?_) (Ev.now _)
    simp only [parapetlaw19_same.l0]
    rw [if_neg (by omega)]
  induction d with
  | zero => intro i hi hd; exact stop i hi (by omega)
  | succ d ih =>
    intro i hi hd
    by_cases hlt : i < l.length
    · refine Ev.step (fun k => ?_) (ih (i + 1) (by omega) (by omega))
      simp only [parapetlaw19_same.l0]
      rw [if_pos (by omega), if_pos (by omega), if_pos (by omega), if_neg (by simp), w64 (by omega) (by omega)]
      rfl
    · exact stop i hi hlt
theorem same_ev (l : List Tk) (hl : l.length ≤ 1000000) : Ev (fun k => parapetlaw19_same.f k l l) true := by
  unfold parapetlaw19_same.f
  refine Ev.congr (fun k => ?_) (same_loop l hl l.length 0 (Nat.zero_le _) (by omega))
  rw [if_pos rfl]; rfl
theorem pieces_loop (a : ByteArray) (ha : a.size ≤ 2000) (ts us : List Tk) (ht : ts.length ≤ 10000) (hu : us.length ≤ 10000) (hb : ∀ t ∈ us, 0 ≤ t.f1 ∧ t.f1 ≤ 10000) (d : Nat) : ∀ i : Nat, i ≤ us.length → us.length - i ≤ d →
    Ev (fun k => parapetlaw19_LexPieces.l0 k a ts us (ts ++ us.map (upT (a.size + 1))) (i : Int)) true := by
  have aw : Ev (fun k => (parapetlaw19_awake.f k).bind fun t163 => some t163) true := Ev.bind awake_ev (Ev.now _)
  have stop : ∀ i : Nat, i ≤ us.length → ¬ i < us.length → Ev (fun k => parapetlaw19_LexPieces.l0 k a ts us (ts ++ us.map (upT (a.size + 1))) (i : Int)) true := by
    intro i hi hn
    refine Ev.step (fun k => ?_) aw
    simp only [parapetlaw19_LexPieces.l0]
    rw [if_neg (by omega)]
  induction d with
  | zero => intro i hi hd; exact stop i hi (by omega)
  | succ d ih =>
    intro i hi hd
    by_cases hlt : i < us.length
    · have hr1 : rd_T31 us (i : Int) = us[i]'hlt := by unfold rd_T31; rw [Int.toNat_natCast, List.getD_eq_getElem?_getD, List.getElem?_eq_getElem hlt]; rfl
      have hr2 : rd_T31 (ts ++ us.map (upT (a.size + 1))) (((ts.length + i : Nat)) : Int) = upT (a.size + 1) (us[i]'hlt) := by
        unfold rd_T31
        rw [Int.toNat_natCast, List.getD_eq_getElem?_getD, List.getElem?_append_right (by omega), Nat.add_sub_cancel_left, List.getElem?_map, List.getElem?_eq_getElem hlt]; rfl
      have hb1 := hb (us[i]'hlt) (List.getElem_mem hlt)
      have hw : wrap64 ((ts.length : Int) + (i : Int)) = ((ts.length + i : Nat) : Int) := by rw [w64 (by omega) (by omega)]; omega
      refine Ev.step (fun k => ?_) (ih (i + 1) (by omega) (by omega))
      simp only [parapetlaw19_LexPieces.l0]
      rw [hw, hr1, hr2, if_pos (by omega), if_pos (by omega), if_pos (by rw [List.length_append, List.length_map]; omega), if_pos (by omega), if_pos (show (upT (a.size + 1) (us[i]'hlt)).f0 = (us[i]'hlt).f0 from rfl), if_pos (show (upT (a.size + 1) (us[i]'hlt)).f2.toList = (us[i]'hlt).f2.toList from rfl), if_pos ?_, w64 (by omega) (by omega)]
      · rfl
      · rw [w64 (n := (us[i]'hlt).f1 + (a.size : Int)) (by omega) (by omega), w64 (by omega) (by omega)]
        simp only [upT]; omega
    · exact stop i hi hlt
theorem lexpieces : parapetlaw19_LexPieces.Pure := by
  intro a0 a1 h0 h1
  have aw : Ev (fun k => (parapetlaw19_awake.f k).bind fun t163 => some t163) true := Ev.bind awake_ev (Ev.now _)
  have : Ev (fun k => parapetlaw19_LexPieces.f k a0 a1) true := by
    unfold parapetlaw19_LexPieces.f
    have hw : wrap64 ((a0.size : Int) + (a1.size : Int)) = (a0.size : Int) + (a1.size : Int) := w64 (by omega) (by omega)
    rw [hw]
    by_cases h : (a0.size : Int) + (a1.size : Int) > 2000
    · simp only [h, if_true]; exact aw
    · simp only [h, if_false]
      have l10 : (⟨#[10]⟩ : ByteArray).size = 1 := rfl
      have c1 : a0.size + 1 ≤ 9223372036854775807 := by omega
      have c2 : (a0 ++ (⟨#[10]⟩ : ByteArray)).size + a1.size ≤ 9223372036854775807 := by rw [ByteArray.size_append, l10]; omega
      simp only [c1, c2, if_true]
      refine Ev.bind (tokens_ev a0) (Ev.bind (tokens_ev a1) (Ev.bind (tokens_ev (a0 ++ (⟨#[10]⟩ : ByteArray) ++ a1)) ?_))
      have hj : a0 ++ (⟨#[10]⟩ : ByteArray) ++ a1 = joinT a0 a1 := rfl
      rw [hj]
      rcases tokM_cases a0 with ⟨ts, x1, x2, x3, x4⟩ | ⟨j, x1, x2⟩ | ⟨x1, x2⟩
      · have jg := join_good a0 a1 (by omega) ts x3 x2
        rw [x1]
        simp only [if_true]
        rcases tokM_cases a1 with ⟨us, y1, y2, y3, y4⟩ | ⟨j, y1, y2⟩ | ⟨y1, y2⟩
        · rw [y1] at jg
          simp only [if_true] at jg
          rw [y1, jg]
          have px := (placed a0 ts x2).len (Nat.zero_le _)
          have py := (placed a1 us y2).len (Nat.zero_le _)
          rw [bytesOf_length] at px py
          have hlen : ((ts ++ us.map (upT (a0.size + 1))).length : Int) = (ts.length : Int) + (us.length : Int) := by rw [List.length_append, List.length_map]; omega
          have hwl : wrap64 ((ts.length : Int) + (us.length : Int)) = (ts.length : Int) + (us.length : Int) := w64 (by omega) (by omega)
          have q0 : (0 : Int) ≤ (ts.length : Int) := by omega
          have q1 : (ts.length : Int) ≤ (ts.length : Int) + (us.length : Int) := by omega
          simp only [hlen, hwl, q0, q1, if_true, Int.toNat_natCast, List.take_left]
          refine Ev.bind (same_ev ts (by omega)) ?_
          refine Ev.step (fun k => ?_) (pieces_loop a0 (by omega) ts us (by omega) (by omega) ?_ us.length 0 (Nat.zero_le _) (by omega))
          · simp only [parapetlaw19_LexPieces.j0]
            rw [if_neg (by simp)]
            rfl
          · intro t ht
            obtain ⟨e, he⟩ : ∃ e, Placed (bytesOf a1) e us := ⟨0, placed a1 us y2⟩
            have : ∀ (l : List Tk) (e : Nat), Placed (bytesOf a1) e l → ∀ t ∈ l, 0 ≤ t.f1 ∧ t.f1 ≤ 10000 := by
              intro l
              induction l with
              | nil => intro e _ t ht; cases ht
              | cons x l ih =>
                intro e ⟨hok, b, hb, _, ⟨rest, hr⟩, hp⟩ t ht
                rcases List.mem_cons.1 ht with rfl | ht
                · have h1 := wof_pos hok
                  have h2 := congrArg List.length hr
                  rw [List.length_drop, List.length_append, bytesOf_length] at h2
                  omega
                · exact ih _ hp t ht
            exact this us e he t ht
        · rw [y1] at jg
          have e8 : ¬ ((8 : Int) = 0) := by omega
          simp only [e8, if_false] at jg
          rw [y1, jg]
          simp only [e8, if_false]
          refine Ev.congr (fun k => ?_) aw
          rw [if_pos]
          rw [w64 (n := (j : Int) + (a0.size : Int)) (by omega) (by omega), w64 (by omega) (by omega)]
          simp
          omega
        · omega
      · obtain ⟨e, je⟩ := join_bad a0 a1 (by omega) (fun ts ⟨hv, hg⟩ => by
          have hsz : ¬ a0.size > 3000 := by omega
          have := tokM_of a0 (by omega) hv hg
          rw [x1] at this
          simp only [Prod.mk.injEq] at this
          omega)
        rw [x1, je]
        have e8 : ¬ ((8 : Int) = 0) := by omega
        simp only [e8, if_true, if_false, List.length_nil]
        exact aw
      · omega
  exact this.rounds
end Go.Proofs.YtlhllcbglfffdaaDoor.Pu
