/- 25 texts of the proof, put together, less what is not used; what a tool printed stands among them. -/
import Derived.StillTail
import Derived.Deep.QuietTactic
import Derived.BigQuiet
import Derived.Laws.CopyOwn
import Derived.Deep.AppendSrc
import Derived.Laws.AppendOwn
import Derived.Laws.IdiomCopy
import Derived.Lib.ConvBytes
import Derived.Recover
import Derived.Maps.Own
import Derived.Maps.OwnOps
import Derived.Maps.Views
import Derived.Defers
import Derived.KernelRfl
import Derived.RegionTactic
import Derived.ChangeAlike
import Derived.BigRegion
import Derived.Test.YtdlahgamdigkhaaDoorMAt5
set_option linter.unusedVariables false
set_option linter.unusedSimpArgs false
set_option maxRecDepth 100000
namespace Go.Proofs
open Go.RowKit
theorem sAt6_0 {p_ : Prop} (h_ : p_ := by
 go_enter Tryd.func18, Tryd.ntmps18
 go_upto_region 1 with (fail)
 rw [← HW1.out]
 go_wp2_with fail
 go_ret
 exact ⟨by rw [HBB.out]; first | done | rfl, HB1.out⟩) : p_ := h_
theorem sAt6_1 {p_ : Prop} (h_ : p_ := by
 go_enter Tryd.func28, Tryd.ntmps28
 go_wp2
 go_quiet ((go_at_call 24; exact Calls.quiet_of_same (bad_quiet w0 _ g T _ e c a _ l0 (IsS66.drewN H.out _))))
 go_wp2_with fail
 refine (parapetref19_Reader_wrong.calls g T _ e c a 8 _ _ _ _ w0 _ (IsS66.drewN H.out _) (pw_below_drewN HB.out _) HW2.out).mono ?_
 rintro e2 w2 ⟨rfl, hs, hb2, hk⟩
 dsimp only
 go_wp2
 go_ret
 exact ⟨rfl, hs, hb2, (keepN _ g).trans hk (.inl rfl)⟩) : p_ := h_
theorem sAt6_2 {p_ : Prop} (h_ : p_ := by
 go_enter Tryd.func18, Tryd.ntmps18
 go_upto_region 1 with (fail)
 rw [← HW1.out]
 go_wp2_with fail
 refine HEV.out.mono ?_
 rintro e w2 ⟨rfl, hb2⟩
 dsimp only
 have HB2 : Aside0 (Below w.heap.size w w2) := ⟨HB1.out.trans (hb2.mono HB1.out.size)⟩
 clear hb2 HEV t0 t1 t2 t3
 go_wp2
 go_ret
 exact ⟨by rw [HBB.out]; first | done | rfl, HB2.out⟩) : p_ := h_
theorem sAt6_3 {p_ : Prop} (h_ : p_ := by
 exact ⟨by first | rfl | (simp [errW_none, errW_some] <;> rfl) | (simp [*, errW_none, errW_some] <;> rfl), by repeat (first | (with_reducible first | exact HI0.out | apply IsS66.alloc | apply IsS66.drewN | apply IsS66.drew | apply IsS66.set_1 | apply IsS66.set_2 | apply IsS66.set_3 | apply IsS66.set_4) | exact HI0.out), by repeat (first | (with_reducible first | exact HB.out | apply below_alloc | apply pw_below_drewN | apply below_drew1 | refine below_set ?_ (IsS66.ge HI0.out)) | exact HB.out), by repeat (first | (with_reducible first | exact HK.out | apply KeepBut.set_ | apply keep_drewN | apply keep_drew | apply keep_alloc) | exact HK.out)⟩) : p_ := h_
theorem sAt6_4 {p_ : Prop} (h_ : p_ := by
 go_enter Tryd.func43, Tryd.ntmps43
 go_wp2
 go_quiet ((go_at_call 24; exact Calls.quiet_of_same (bad_quiet w0 _ g T _ e c a _ l0 (IsS66.drewN H.out _))))
 go_wp2
 go_ret
 exact ⟨rfl, _, rfl⟩) : p_ := h_
theorem sAt6_5 {p_ : Prop} (h_ : p_ := by
 exact bodyPost_ret (cond_ret rfl rfl (setRow_heap _ _ _ _ _ _ HX6.out)) rfl ⟨_, _, 8, _, _, by rw [HR.out]; exact ⟨by decide, by omega, rfl, rfl⟩, rfl, Kd.V_nil _ _ _ _ _, (HA6.out.setRow HG.out.1 HG.out.2.1 HG.out.2.2 _).to⟩) : p_ := h_
end Go.Proofs
namespace Go.Proofs.YtdlahgamdigkhaaDoor.QT
open Go Go.RowKit Go.Proofs.YtdlahgamdigkhaaDoorW.PrintWords Go.Proofs.YtdlahgamdigkhaaDoorW.PrintLast
theorem storeRow_ {P : Program} {ops : Array Oper} {Q : Exit → Act → World → Prop} {oi : Oper} {a : Act} {w : World} {K : Act → World → Prop} (hw : Region.wanted oi (yielded ops a.tmps) = true) (hN : oi.dst = none) (ty : TypeId) (x y : Operand) (ho : oi.op = .store ty x y)
  (g : Nat) (cells : Array Value) (hx : a.eval x = .pointer (some ⟨g, 0, none⟩)) (hy : a.eval y = .agg cells)
  (t : TypeId) (old : Array Value) (hg : w.heap[g]? = some (.cells old t (0, 0))) (hi : (P.info? ty).map (·.size) = some cells.size)
  (hold : old.size = cells.size) (h1 : cells.all (·.oneCell') = true) (h : K (a.put none undef) (w.setRow g cells)) : if Region.wanted oi (yielded ops a.tmps) = true then Oper.wp P oi a w K Q else K (a.put none undef) w := by
 rw [if_pos hw]
 exact wp_store_row ty x y ho g cells hx hy t old hg hi hold h1 (by rw [hN]; exact h)
end Go.Proofs.YtdlahgamdigkhaaDoor.QT
namespace Go.Proofs.YtdlahgamdigkhaaDoor.Ps
open Go.RowKit Go.Proofs.YtdlahgamdigkhaaDoor.Pr Go.Proofs.YtdlahgamdigkhaaDoorW.PrintWords Go.Proofs.YtdlahgamdigkhaaDoorW.PrintLast Go.Proofs.YtdlahgamdigkhaaDoorW.PrintMore
theorem ret_row {fn : Func} {p : Tmp} {ty : TypeId} (h : fn.results = #[.cell p ty]) (tmps : Array Value) (w : World) (g : Nat) (t : TypeId) (cs : Array Value) (fr : Nat × Nat) {fs}
  (hp : tmps.getD p undef = .pointer (some ⟨g, 0, none⟩)) (hg : w.heap[g]? = some (.cells cs t fr)) (hu : Tryd.prog.underlying ty = some (.struct fs)) (hi : (Tryd.prog.info? ty).map (·.size) = some cs.size) :
  (results fn tmps).run Tryd.prog w = .ok (.agg cs) w := by
 have hp' : tmps[p]?.getD undef = .pointer (some ⟨g, 0, none⟩) := by simpa using hp
 simp [results, h, hp', asAddr, run_loadVar_row w g t ty cs fr _ hg hu rfl hi]
theorem lit_strs (W : World) (ws : List ByteArray) (hm : ws.length ≤ 1000000) : Kd.string.C (W.alloc (.cells (encs Value.string ws).toArray 9)) (some ⟨W.heap.size, 0, none⟩) ws.length ws := by
 have h := own_lit_of (enc := Value.string) W 0 9 ws (Nat.zero_le _) (by omega)
 have h2 : Kd.string.R 9 (W.alloc (.cells (encs Value.string ws).toArray 9)) 0 (fun _ => True) (.slice (some ⟨W.heap.size, 0, none⟩) ws.length ws.length) ws := Kd.R_of_own h (fun _ _ => trivial)
 exact (Kd.R_reads' h2).2.2
def cdcells (c : Cd) (v3 : Value) : Array Value := #[.int .i64 c.f0, .string c.f1.f0, .string c.f1.f1, v3]
def kidsK (T : List Tk) (e : Int) (one : Nat → Res Cd) (w : ByteArray) (f : Nat) (acc : List Cd) : Res Cd → Res (List Cd)
 | .error x => .error x
 | .ok (c, q) => kidsL T e one w f (acc ++ [c]) q
theorem kidsL_succ (T : List Tk) (e : Int) (one : Nat → Res Cd) (w : ByteArray) (f : Nat) (acc : List Cd) (p : Nat) : kidsL T e one w (f + 1) acc p = if isP T e [w] p then kidsK T e one w f acc (one (p + 1)) else .ok (acc, p) := by
 rw [kidsL]
 split
 ·cases one (p + 1) with
  | error x => rfl
  | ok x => rfl
 ·rfl
theorem kidsL_bound {T : List Tk} {e : Int} {one : Nat → Res Cd} {w : ByteArray} (hmono : ∀ p c q, one p = .ok (c, q) → p ≤ q) : ∀ (f : Nat) (acc : List Cd) (p : Nat) (l : List Cd) (q : Nat), kidsL T e one w f acc p = .ok (l, q) → p ≤ q
 | 0, acc, p, l, q, h => by cases h; exact Nat.le_refl _
 | f + 1, acc, p, l, q, h => by
  rw [kidsL] at h
  split at h
  ·split at h
   ·cases h
   ·rename_i c q' h1
    have := kidsL_bound hmono f _ _ _ _ h
    have := hmono _ _ _ h1
    omega
  ·cases h; exact Nat.le_refl _
theorem kidsP_mono {T : List Tk} {e : Int} {one : Nat → Res Cd} {w : ByteArray} {kind : Int} (hmono : ∀ p c q, one p = .ok (c, q) → p ≤ q) : ∀ p c q, kidsP T e kind w one p = .ok (c, q) → p ≤ q := fun p c q h => by
 rw [kidsP] at h
 split at h
 ·cases h
 ·rename_i c1 q1 h1
  have := hmono _ _ _ h1
  split at h
  ·cases h
  ·rename_i l r h2
   have := kidsL_bound hmono _ _ _ _ _ h2
   split at h <;> (cases h; omega)
theorem isP_lt {T : List Tk} {e : Int} {ws : List ByteArray} {p : Nat} (h : isP T e ws p = true) : p < T.length := by
 apply Classical.byContradiction
 intro hp
 simp [isP, nxt, hp] at h
theorem info_cd : (Tryd.prog.info? 39).map (fun i => (i.zero, i.size, i.bytes)) = some (some (.agg #[.int .i64 0, .string ⟨#[]⟩, .string ⟨#[]⟩, .slice none 0 0]), 4, 64) := by kernel_rfl
theorem size_cd : (Tryd.prog.info? 39).map (·.size) = some 4 := by kernel_rfl
theorem kept_setRow (W : World) (g : Nat) (cs : Array Value) : Kept W (W.setRow g cs) (fun k => k = g) := ⟨by simp, fun i _ hn => setRow_other W g i cs hn⟩
theorem cd_one (c : Cd) (v3 : Value) (h : v3.oneCell' = true) : (cdcells c v3).all (·.oneCell') = true := by
 simp only [cdcells, List.all_toArray, List.all_cons, h, List.all_nil, Bool.and_true]; rfl
def low (x : Int) : Int := if 65 ≤ x ∧ x ≤ 90 then x + 32 else x
theorem low_str (s : ByteArray) : strOfNums ((bytesOf s).map low) = lowB s := by
 have h : ∀ c : UInt8, UInt8.ofNat (low (c.toNat : Int)).toNat = if 65 ≤ c ∧ c ≤ 90 then c + 32 else c := by
  intro c
  have hc : c.toNat < 256 := c.toNat_lt
  unfold low
  have e1 : (65 ≤ c ∧ c ≤ 90) ↔ (65 ≤ (c.toNat : Int) ∧ (c.toNat : Int) ≤ 90) := by
   rw [UInt8.le_iff_toNat_le, UInt8.le_iff_toNat_le]
   show (65 ≤ c.toNat ∧ c.toNat ≤ 90) ↔ _
   omega
  by_cases h : 65 ≤ (c.toNat : Int) ∧ (c.toNat : Int) ≤ 90
  ·rw [if_pos h, if_pos (e1.2 h)]
   apply UInt8.toNat_inj.1
   rw [UInt8.toNat_ofNat', UInt8.toNat_add]
   show ((c.toNat : Int) + 32).toNat % 256 = (c.toNat + 32) % 256
   omega
  ·rw [if_neg h, if_neg (fun hh => h (e1.1 hh))]
   apply UInt8.toNat_inj.1
   rw [UInt8.toNat_ofNat']
   omega
 apply ByteArray.ext
 apply Array.ext'
 rw [strOfNums_data]
 simp only [lowB, bytesOf, List.map_map, Array.toList_map]
 exact List.map_congr_left (fun c _ => h c)
theorem takeP_mono {T : List Tk} {e k : Int} {p q : Nat} {t : ByteArray} (h : takeP T e k p = .ok (t, q)) : q = p + 1 := by
 rw [takeP] at h
 split at h <;> cases h
 rfl
theorem wordP_mono {T : List Tk} {e : Int} {ws : List ByteArray} {p q : Nat} {t : ByteArray} (h : wordP T e ws p = .ok (t, q)) : q = p + 1 := by
 rw [wordP] at h
 split at h
 ·exact takeP_mono h
 ·cases h
theorem atomT_mono {w : ByteArray} {f : ByteArray → ByteArray} {r : Res ByteArray} {c : Cd} {q : Nat} (h : atomT w f r = .ok (c, q)) : ∃ t, r = .ok (t, q) := by
 cases r with
 | error x => cases h
 | ok x => obtain ⟨t, q'⟩ := x; cases h; exact ⟨t, rfl⟩
theorem atomP_mono {T : List Tk} {e : Int} : ∀ p c q, atomP T e p = .ok (c, q) → p ≤ q := fun p c q h => by
 rw [atomP] at h
 split at h
 ·cases h
 ·rename_i w q1 h1
  have e1 := wordP_mono h1
  unfold atomK at h
  have key : ∀ {f : ByteArray → ByteArray} {k : Int}, atomT w f (takeP T e k q1) = .ok (c, q) → p ≤ q := fun h => by
   obtain ⟨t, ht⟩ := atomT_mono h
   have := takeP_mono ht
   omega
  repeat' split at h
  all_goals first | exact key h | (cases h; omega)
theorem notR_mono {T : List Tk} {e : Int} {deep : Int} {one : Nat → Res Cd} (hmono : ∀ p c q, one p = .ok (c, q) → p ≤ q) : ∀ p c q, notR T e deep one p = .ok (c, q) → p ≤ q := fun p c q h => by
 unfold notR at h
 split at h
 ·split at h
  ·cases ho : one (p + 1) with
   | error x => rw [ho] at h; cases h
   | ok x =>
    obtain ⟨c1, q1⟩ := x
    rw [ho] at h
    cases h
    have := hmono _ _ _ ho
    omega
  ·cases h
 ·split at h
  ·split at h
   ·cases ho : orP T e one (p + 1) with
    | error x => rw [ho] at h; cases h
    | ok x =>
     obtain ⟨c1, q1⟩ := x
     rw [ho] at h
     have h1 := kidsP_mono (kidsP_mono hmono) _ _ _ ho
     cases ht : takeP T e 4 q1 with
     | error x => rw [closeP, ht] at h; cases h
     | ok x =>
      obtain ⟨t, q2⟩ := x
      rw [closeP, ht] at h
      cases h
      have := takeP_mono ht
      omega
   ·cases h
  ·exact atomP_mono _ _ _ h
theorem notN_zero (T : List Tk) (e : Int) (p : Nat) : notN T e 0 p = notR T e 30 (fun _ => .error (0, 0)) p := by
 unfold notN notR
 split
 ·rw [if_neg (by decide)]; rfl
 ·split
  ·rw [if_neg (by decide)]
  ·rfl
theorem notN_succ (T : List Tk) (e : Int) (n : Nat) (p : Nat) : notN T e (n + 1) p = notR T e (30 - ((n + 1 : Nat) : Int)) (notN T e n) p := by
 have h : (30 : Int) - ((n + 1 : Nat) : Int) < 30 := by omega
 rw [notN]
 unfold notR
 simp only [if_pos h]
theorem notN_mono (T : List Tk) (e : Int) : ∀ n p c q, notN T e n p = .ok (c, q) → p ≤ q
 | 0, p, c, q, h => notR_mono (one := fun _ => .error (0, 0)) (fun _ _ _ h => by cases h) p c q (by rw [← notN_zero]; exact h)
 | n + 1, p, c, q, h => notR_mono (notN_mono T e n) p c q (by rw [← notN_succ]; exact h)
def condP (T : List Tk) (e : Int) (p : Nat) : Res Cd := orP T e (notN T e 30) p
theorem condP_mono (T : List Tk) (e : Int) : ∀ p c q, condP T e p = .ok (c, q) → p ≤ q := kidsP_mono (kidsP_mono (notN_mono T e 30))
end Go.Proofs.YtdlahgamdigkhaaDoor.Ps
namespace Go.Proofs.YtdlahgamdigkhaaDoor.Ps
open Go.RowKit Go.Proofs.YtdlahgamdigkhaaDoor.Pr Go.Proofs.YtdlahgamdigkhaaDoorW.PrintWords Go.Proofs.YtdlahgamdigkhaaDoorW.PrintLast Go.Proofs.YtdlahgamdigkhaaDoorW.PrintMore
theorem as_fault (v : Value) (w : World) : (Instr.typeAssert (.iface 50 v) 20 50 true).run Tryd.prog w = .ok (.tuple #[v, .bool true]) w := by kernel_rfl
attribute [local go_sem] as_fault
end Go.Proofs.YtdlahgamdigkhaaDoor.Ps
namespace Go.Proofs.YtdlahgamdigkhaaDoor.Ps
open Go.RowKit Go.Proofs.YtdlahgamdigkhaaDoor.Pr Go.Proofs.YtdlahgamdigkhaaDoorW.PrintWords Go.Proofs.YtdlahgamdigkhaaDoorW.PrintLast Go.Proofs.YtdlahgamdigkhaaDoorW.PrintMore
theorem size_sh : (Tryd.prog.info? 47).map (·.size) = some 4 := by kernel_rfl
theorem info_sh : (Tryd.prog.info? 47).map (fun i => (i.zero, i.size, i.bytes)) = some (some (.agg #[.string ⟨#[]⟩, .slice none 0 0, .slice none 0 0, .bool false]), k47.sz, 72) := by kernel_rfl
def shareM (T : List Tk) (e : Int) (f : Nat) (s : Sh) : Res ByteArray → Res Sh
 | .error x => .error x
 | .ok (t, r) => shareL T e f ⟨s.f0, s.f1 ++ [t], s.f2, s.f3⟩ r
def shareH (T : List Tk) (e : Int) (f : Nat) (s : Sh) : Res ByteArray → Res Sh
 | .error x => .error x
 | .ok (t, r) => shareL T e f ⟨s.f0, s.f1, s.f2 ++ [t], s.f3⟩ r
def shareK (T : List Tk) (e : Int) (f : Nat) (s : Sh) : Res ByteArray → Res Sh
 | .error x => .error x
 | .ok (w, q) => if w = wMethod then shareM T e f s (takeP T e 1 q) else if w = wHeader then shareH T e f s (takeP T e 1 q) else shareL T e f ⟨s.f0, s.f1, s.f2, true⟩ q
theorem shareL_succ (T : List Tk) (e : Int) (f : Nat) (s : Sh) (p : Nat) (h : true = isP T e [wMethod, wHeader, wCreds] p) : shareL T e (f + 1) s p = shareK T e f s (takeP T e 1 p) := by
 rw [shareL, ← h, if_pos rfl]
 cases takeP T e 1 p with
 | error x => rfl
 | ok x =>
  obtain ⟨w, q⟩ := x
  simp only [shareK]
  split
  ·cases takeP T e 1 q <;> rfl
  ·split
   ·cases takeP T e 1 q <;> rfl
   ·rfl
theorem info_str : (Tryd.prog.info? 9).map (fun i => (i.zero, i.size, i.bytes)) = some (some (.string ⟨#[]⟩), Kd.string.sz, 16) := by kernel_rfl
theorem eq_word {w a : ByteArray} {l : List UInt8} (h : a.toList = l) : (w.toList == l) = decide (w = a) := by
 subst h
 rw [Bool.eq_iff_iff]
 simp [bytes_toList]
def cspK (s : Pst) : Res ByteArray → Res Pst
 | .error x => .error x
 | .ok (t, r) => .ok ({ s with csp := s.csp ++ [t] }, r)
def shaK (s : Pst) : Res Sh → Res Pst
 | .error x => .error x
 | .ok (h, r) => .ok ({ s with shares := s.shares ++ [h] }, r)
def mixK (s : Pst) : Res ByteArray → Res Pst
 | .error x => .error x
 | .ok (t, r) => .ok ({ s with mixed := t }, r)
def defK (s : Pst) : Res ByteArray → Res Pst
 | .error x => .error x
 | .ok (t, r) => .ok ({ s with allow := decide (t = wAllow) }, r)
theorem itemK_csp {T : List Tk} {e : Int} {s : Pst} {w : ByteArray} {q : Nat} (h : w = wCsp) : itemK T e s w q = cspK s (takeP T e 2 q) := by
 rw [itemK, if_pos h]
 cases takeP T e 2 q <;> rfl
theorem itemK_share {T : List Tk} {e : Int} {s : Pst} {w : ByteArray} {q : Nat} (h0 : ¬ w = wCsp) (h : w = wShare) : itemK T e s w q = shaK s (shareP T e q) := by
 rw [itemK, if_neg h0, if_pos h]
 cases shareP T e q <;> rfl
theorem itemK_mixed {T : List Tk} {e : Int} {s : Pst} {w : ByteArray} {q : Nat} (h0 : ¬ w = wCsp) (h1 : ¬ w = wShare) (h : w = wMixed) : itemK T e s w q = mixK s (wordP T e [wBlock, wUpgrade, wAllow] q) := by
 rw [itemK, if_neg h0, if_neg h1, if_pos h]
 cases wordP T e [wBlock, wUpgrade, wAllow] q <;> rfl
theorem itemK_default {T : List Tk} {e : Int} {s : Pst} {w : ByteArray} {q : Nat} (h0 : ¬ w = wCsp) (h1 : ¬ w = wShare) (h2 : ¬ w = wMixed) (h : w = wDefault) : itemK T e s w q = defK s (wordP T e [wAllow, wDeny] q) := by
 rw [itemK, if_neg h0, if_neg h1, if_neg h2, if_pos h]
 cases wordP T e [wAllow, wDeny] q <;> rfl
theorem info_rule : (Tryd.prog.info? 41).map (fun i => (i.zero, i.size, i.bytes)) = some (some (.agg #[.bool false, .int .i64 0, .string ⟨#[]⟩, .string ⟨#[]⟩, .slice none 0 0]), k41.sz, 72) := by kernel_rfl
def ruleK (s : Pst) (w : ByteArray) : Res Cd → Res Pst
 | .error x => .error x
 | .ok (c, r2) => .ok ({ s with rules := s.rules ++ [⟨decide (w = wAllow), c⟩] }, r2)
def ifK (T : List Tk) (e : Int) (s : Pst) (w : ByteArray) : Res ByteArray → Res Pst
 | .error x => .error x
 | .ok (_, r) => ruleK s w (condP T e r)
theorem itemK_rule {T : List Tk} {e : Int} {s : Pst} {w : ByteArray} {q : Nat} (h0 : ¬ w = wCsp) (h1 : ¬ w = wShare) (h2 : ¬ w = wMixed) (h3 : ¬ w = wDefault) : itemK T e s w q = ifK T e s w (wordP T e [wIf] q) := by
 rw [itemK, if_neg h0, if_neg h1, if_neg h2, if_neg h3]
 cases wordP T e [wIf] q with
 | error x => rfl
 | ok x =>
  obtain ⟨_, r⟩ := x
  show (match condP T e r with
   | .error x => .error x
   | .ok (c, r2) => .ok ({ s with rules := s.rules ++ [⟨decide (w = wAllow), c⟩] }, r2)) = ruleK s w (condP T e r)
  cases condP T e r <;> rfl
set_option maxHeartbeats 16000000
set_option maxRecDepth 100000
theorem shareL_mono {T : List Tk} {e : Int} : ∀ (f : Nat) (s : Sh) (p : Nat) (s' : Sh) (q : Nat), shareL T e f s p = .ok (s', q) → p ≤ q
 | 0, s, p, s', q, h => by
  rw [shareL] at h; cases h; exact Nat.le_refl _
 | f + 1, s, p, s', q, h => by
  by_cases hi : isP T e [wMethod, wHeader, wCreds] p = true
  ·rw [shareL_succ _ _ _ _ _ hi.symm] at h
   cases ht : takeP T e 1 p with
   | error x => rw [ht] at h; cases h
   | ok x =>
    obtain ⟨w, q1⟩ := x
    have hq1 := takeP_mono ht
    rw [ht] at h
    simp only [shareK] at h
    split at h
    ·cases ht2 : takeP T e 1 q1 with
     | error x => rw [ht2] at h; cases h
     | ok x =>
      obtain ⟨t, q2⟩ := x
      have hq2 := takeP_mono ht2
      rw [ht2] at h
      have := shareL_mono f _ _ _ _ h
      omega
    ·split at h
     ·cases ht2 : takeP T e 1 q1 with
      | error x => rw [ht2] at h; cases h
      | ok x =>
       obtain ⟨t, q2⟩ := x
       have hq2 := takeP_mono ht2
       rw [ht2] at h
       have := shareL_mono f _ _ _ _ h
       omega
     ·have := shareL_mono f _ _ _ _ h
      omega
  ·rw [shareL, if_neg hi] at h; cases h; exact Nat.le_refl _
theorem shareP_mono {T : List Tk} {e : Int} {p : Nat} {s' : Sh} {q : Nat} (h : shareP T e p = .ok (s', q)) : p ≤ q := by
 rw [shareP] at h
 cases ht : takeP T e 2 p with
 | error x => rw [ht] at h; cases h
 | ok x =>
  obtain ⟨t, q2⟩ := x
  have hq2 := takeP_mono ht
  rw [ht] at h
  have := shareL_mono _ _ _ _ _ h
  omega
def endK (T : List Tk) (e : Int) (f : Nat) (s : Pst) : Res ByteArray → Except (Int × Int) Pst
 | .error x => .error x
 | .ok (_, r) => itemsP T e f s r
def itemsK (T : List Tk) (e : Int) (f : Nat) : Res Pst → Except (Int × Int) Pst
 | .error x => .error x
 | .ok (s, q) => endK T e f s (takeP T e 5 q)
theorem itemsP_succ {T : List Tk} {e : Int} {f : Nat} {s : Pst} {p : Nat} (h : p < T.length) : itemsP T e (f + 1) s p = itemsK T e f (itemP T e s p) := by
 rw [itemsP, if_pos h]
 cases itemP T e s p with
 | error x => rfl
 | ok x =>
  obtain ⟨s1, q⟩ := x
  simp only [itemsK]
  cases takeP T e 5 q <;> rfl
def polcells (v3 v4 : Value) (m : ByteArray) (v6 : Value) (a : Bool) : Array Value := #[v3, v4, .string m, v6, .bool a]
def zeroPol : Value := .agg (polcells (.slice none 0 0) (.slice none 0 0) ⟨#[]⟩ (.slice none 0 0) false)
def faultV (f : Int × Int) : Value := .agg #[.int .i64 f.1, .int .i64 f.2]
theorem pol_one {v3 v4 v6 : Value} (h : v3.oneCell' = true ∧ v4.oneCell' = true ∧ v6.oneCell' = true) (m : ByteArray) (a : Bool) : (polcells v3 v4 m v6 a).all (·.oneCell') = true := by
 rw [← Array.all_toList]
 show (v3.oneCell' && (v4.oneCell' && ((Value.string m).oneCell' && (v6.oneCell' && ((Value.bool a).oneCell' && true))))) = true
 rw [h.1, h.2.1, h.2.2]; rfl
def polT (n : Int) : List Tk × Int × Int → Except (Int × Int) Pst
 | (T, c, a) => if c = 0 then polP T n else .error (c, a)
theorem size_two (w : World) (c1 c2 : Array Value) (t1 t2 : TypeId) : ((w.alloc (.cells c1 t1)).alloc (.cells c2 t2)).heap.size = w.heap.size + 2 := by
 rw [show ((w.alloc (.cells c1 t1)).alloc (.cells c2 t2)).heap.size = (w.alloc (.cells c1 t1)).heap.size + 1 from Array.size_push _, show (w.alloc (.cells c1 t1)).heap.size = w.heap.size + 1 from Array.size_push _]
theorem blk_new2 (w : World) (c1 c2 : Array Value) (t1 t2 : TypeId) : ((w.alloc (.cells c1 t1)).alloc (.cells c2 t2)).heap[w.heap.size + 1]? = some (.cells c2 t2 (0, 0)) := by
 have h := blk_new (w.alloc (.cells c1 t1)) (.cells c2 t2)
 rwa [show (w.alloc (.cells c1 t1)).heap.size = w.heap.size + 1 from Array.size_push _] at h
theorem size_fault : (Tryd.prog.info? 50).map (·.size) = some 2 := by kernel_rfl
theorem size_pol : (Tryd.prog.info? 26).map (·.size) = some 5 := by kernel_rfl
def okTk (T : List Tk) : Bool := decide (T.length ≤ 1000000) && T.all (fun t => decide (t.f2.size ≤ 1000000))
theorem okTk_iff {T : List Tk} : okTk T = true ↔ T.length ≤ 1000000 ∧ ∀ t ∈ T, t.f2.size ≤ 1000000 := by
 simp [okTk]
end Go.Proofs.YtdlahgamdigkhaaDoor.Ps
namespace Go.Proofs.YtdlahgamdigkhaaDoor.Pu
open Go.RowKit Go.Proofs.YtdlahgamdigkhaaDoor.Pr Go.Proofs.YtdlahgamdigkhaaDoorW.PrintWords Go.Proofs.YtdlahgamdigkhaaDoor.Lx
open Go.Proofs.YtdlahgamdigkhaaDoor.Ps hiding Tk
theorem text_le {t : Tk} {bs : List Int} {a : Nat} {rest : List Int} (h : bs.drop a = wof t ++ rest) : t.f2.size ≤ bs.length := by
 have h1 := congrArg List.length h
 rw [List.length_drop, List.length_append] at h1
 have h2 : t.f2.size ≤ (wof t).length := by
  unfold wof
  split
  ·have := escL_ge (bytesOf t.f2)
   rw [bytesOf_length] at this
   simp only [List.length_cons, List.length_append]; omega
  ·rw [bytesOf_length]; exact Nat.le_refl _
 omega
theorem toks_len {x : ByteArray} {ts : List Tk} (h : sm 0 .sk [] (bytesOf x) = .good ts) : ts.length ≤ x.size := by
 have := (placed x ts h).len (Nat.zero_le _)
 rw [bytesOf_length] at this; omega
theorem toks_text {x : ByteArray} {ts : List Tk} (h : sm 0 .sk [] (bytesOf x) = .good ts) : ∀ t ∈ ts, t.f2.size ≤ x.size := by
 intro t ht
 obtain ⟨_, a, rest, hd⟩ := (placed x ts h).all t ht
 have := text_le hd
 rw [bytesOf_length] at this; exact this
theorem okTk_tokM (x : ByteArray) : okTk (tokM x).1 = true := by
 rcases tokM_cases x with ⟨ts, h, hs, hv, hl⟩ | ⟨j, h, hj⟩ | ⟨h, hl⟩
 ·rw [h]
  exact okTk_iff.2 ⟨by show ts.length ≤ 1000000; have := toks_len hs; omega, fun t ht => by have := toks_text hs t ht; omega⟩
 ·rw [h]; rfl
 ·rw [h]; rfl
def polA (x : ByteArray) : Except (Int × Int) Pst := polT x.size (tokM x)
end Go.Proofs.YtdlahgamdigkhaaDoor.Pu
namespace Go.Proofs.YtdlahgamdigkhaaDoor.Pu
open Go.RowKit Go.Proofs.YtdlahgamdigkhaaDoor.Pr Go.Proofs.YtdlahgamdigkhaaDoorW.PrintWords Go.Proofs.YtdlahgamdigkhaaDoor.Lx
open Go.Proofs.YtdlahgamdigkhaaDoor.Ps hiding Tk
abbrev Ky := Int × ByteArray
section
variable {T : List Tk} {e : Int} {p : Nat} {ws : List Ky}
theorem mem_of_B {t : ByteArray} {l : List ByteArray} : memB t l = true ↔ t ∈ l := by simp [memB]
end
end Go.Proofs.YtdlahgamdigkhaaDoor.Pu
namespace Go.Proofs.YtdlahgamdigkhaaDoor.Pu
open Go.RowKit Go.Proofs.YtdlahgamdigkhaaDoor.Pr Go.Proofs.YtdlahgamdigkhaaDoorW.PrintWords Go.Proofs.YtdlahgamdigkhaaDoor.Lx
open Go.Proofs.YtdlahgamdigkhaaDoor.Ps hiding Tk
section
variable {T : List Tk} {e : Int}
theorem wrapNot_ok {r : Res Cd} {x : Cd × Nat} (h : wrapNot r = .ok x) : ∃ c q, r = .ok (c, q) ∧ x = (cond0 4 [c], q) := by
 cases r with
 | error y => cases h
 | ok y => obtain ⟨c, q⟩ := y; simp only [wrapNot] at h; exact ⟨c, q, rfl, (Except.ok.inj h).symm⟩
theorem closeP_ok {r : Res Cd} {x : Cd × Nat} (h : closeP T e r = .ok x) : ∃ c q, r = .ok (c, q) ∧ closeK c (takeP T e 4 q) = .ok x := by
 cases r with
 | error y => cases h
 | ok y => obtain ⟨c, q⟩ := y; exact ⟨c, q, rfl, h⟩
theorem atomK_ge {w : ByteArray} {q : Nat} {c : Cd} {r : Nat} (h : atomK T e w q = .ok (c, r)) : q ≤ r := by
 unfold atomK at h
 split at h
 ·cases h; exact Nat.le_refl _
 split at h
 ·cases h; exact Nat.le_refl _
 split at h
 ·obtain ⟨t, ht⟩ := atomT_mono h; have := takeP_mono ht; omega
 split at h
 ·obtain ⟨t, ht⟩ := atomT_mono h; have := takeP_mono ht; omega
 split at h
 ·obtain ⟨t, ht⟩ := atomT_mono h; have := takeP_mono ht; omega
 ·cases h; exact Nat.le_refl _
theorem atomP_gt {p : Nat} {c : Cd} {q : Nat} (h : atomP T e p = .ok (c, q)) : p < q := by
 rw [atomP] at h
 cases h1 : wordP T e atomWords p with
 | error x => rw [h1] at h; cases h
 | ok x =>
  obtain ⟨w, q1⟩ := x
  have := wordP_mono h1
  rw [h1] at h
  have := atomK_ge h
  omega
end
end Go.Proofs.YtdlahgamdigkhaaDoor.Pu
namespace Go.Proofs.YtdlahgamdigkhaaDoor.Pu
open Go.RowKit Go.Proofs.YtdlahgamdigkhaaDoor.Pr Go.Proofs.YtdlahgamdigkhaaDoorW.PrintWords Go.Proofs.YtdlahgamdigkhaaDoor.Lx
open Go.Proofs.YtdlahgamdigkhaaDoor.Ps hiding Tk
mutual
def sizeC : S39 → Nat
 | ⟨_, _, l⟩ => 1 + sizeL l
def sizeL : List (S39) → Nat
 | [] => 0
 | c :: l => sizeC c + sizeL l
end
theorem sizeC_eq (c : Cd) : sizeC c = 1 + sizeL c.f2 := by cases c; rw [sizeC]
theorem sizeL_app : ∀ a b : List Cd, sizeL (a ++ b) = sizeL a + sizeL b
 | [], b => by rw [List.nil_append, sizeL]; omega
 | c :: a, b => by rw [List.cons_append, sizeL, sizeL, sizeL_app a b]; omega
theorem sizeL_len : ∀ l : List Cd, l.length ≤ sizeL l
 | [] => Nat.zero_le _
 | c :: l => by rw [sizeL, List.length_cons, sizeC_eq]; have := sizeL_len l; omega
theorem size_mem : ∀ {l : List Cd} {c : Cd}, c ∈ l → sizeC c ≤ sizeL l
 | d :: l, c, h => by
  rw [sizeL]
  rcases List.mem_cons.1 h with rfl | h
  ·omega
  ·have := size_mem h; omega
section
variable {T : List Tk} {e : Int}
def Sized (f : Nat → Res Cd) : Prop := ∀ p c q, f p = .ok (c, q) → sizeC c + p ≤ q
theorem kidsL_size {one : Nat → Res Cd} (h : Sized one) {w : ByteArray} : ∀ (f : Nat) (acc : List Cd) (p : Nat) (l : List Cd) (q : Nat), kidsL T e one w f acc p = .ok (l, q) → sizeL l + p + l.length ≤ sizeL acc + q + acc.length
 | 0, acc, p, l, q, hr => by cases hr; omega
 | f + 1, acc, p, l, q, hr => by
  rw [kidsL] at hr
  split at hr
  ·cases h1 : one (p + 1) with
   | error x => rw [h1] at hr; cases hr
   | ok x =>
    obtain ⟨c, q1⟩ := x
    rw [h1] at hr
    have := h _ _ _ h1
    have := kidsL_size h f _ _ _ _ hr
    rw [sizeL_app, List.length_append, List.length_singleton, sizeL, sizeL] at this
    omega
  ·cases hr; omega
theorem kidsL_more {one : Nat → Res Cd} {w : ByteArray} : ∀ {f : Nat} {acc : List Cd} {p : Nat} {l : List Cd} {q : Nat}, kidsL T e one w f acc p = .ok (l, q) → acc.length ≤ l.length
 | 0, acc, p, l, q, hr => by cases hr; exact Nat.le_refl _
 | f + 1, acc, p, l, q, hr => by
  rw [kidsL] at hr
  split at hr
  ·cases h1 : one (p + 1) with
   | error x => rw [h1] at hr; cases hr
   | ok x =>
    obtain ⟨c, q1⟩ := x
    rw [h1] at hr
    have := kidsL_more hr
    rw [List.length_append] at this
    omega
  ·cases hr; exact Nat.le_refl _
theorem kidsP_size {one : Nat → Res Cd} (h : Sized one) {w : ByteArray} {kind : Int} : Sized (kidsP T e kind w one) := by
 intro p c q hr
 rw [kidsP] at hr
 cases h1 : one p with
 | error x => rw [h1] at hr; cases hr
 | ok x =>
  obtain ⟨c1, q1⟩ := x
  rw [h1] at hr
  have hs := h _ _ _ h1
  simp only at hr
  cases hk : kidsL T e one w (T.length + 1 - q1) [c1] q1 with
  | error x => rw [hk] at hr; cases hr
  | ok y =>
   obtain ⟨l, q2⟩ := y
   rw [hk] at hr
   have hl := kidsL_size h _ _ _ _ _ hk
   simp only [sizeL, List.length_singleton] at hl
   simp only at hr
   split at hr
   ·rename_i h1l
    have h3 := Except.ok.inj hr; simp only [Prod.mk.injEq] at h3
    obtain ⟨x, rfl⟩ : ∃ x, l = [x] := List.length_eq_one_iff.1 h1l
    rw [← h3.1, ← h3.2]
    simp only [sizeL, List.length_singleton] at hl
    show sizeC x + p ≤ q2
    omega
   ·rename_i h1l
    have h3 := Except.ok.inj hr; simp only [Prod.mk.injEq] at h3
    rw [← h3.1, ← h3.2, cond0, sizeC]
    have hge : 1 ≤ l.length := by
     have := kidsL_more hk
     simpa using this
    omega
theorem atomP_size : Sized (atomP T e) := by
 intro p c q h
 have hg := atomP_gt h
 have : sizeC c = 1 := by
  rw [atomP] at h
  cases h1 : wordP T e atomWords p with
  | error x => rw [h1] at h; cases h
  | ok x =>
   obtain ⟨w, q1⟩ := x
   rw [h1] at h
   simp only at h
   unfold atomK at h
   have hT : ∀ {f : ByteArray → ByteArray} {r : Res ByteArray}, atomT w f r = .ok (c, q) → sizeC c = 1 := by
    intro f r hr
    cases r with
    | error x => cases hr
    | ok x => obtain ⟨t, q3⟩ := x; simp only [atomT] at hr; have h3 := Except.ok.inj hr; simp only [Prod.mk.injEq] at h3; rw [← h3.1, sizeC, sizeL]
   split at h
   ·have h3 := Except.ok.inj h; simp only [Prod.mk.injEq] at h3; rw [← h3.1, cond0, sizeC, sizeL]
   split at h
   ·have h3 := Except.ok.inj h; simp only [Prod.mk.injEq] at h3; rw [← h3.1, cond0, sizeC, sizeL]
   split at h
   ·exact hT h
   split at h
   ·exact hT h
   split at h
   ·exact hT h
   ·have h3 := Except.ok.inj h; simp only [Prod.mk.injEq] at h3; rw [← h3.1, sizeC, sizeL]
 omega
theorem notN_size : ∀ n, Sized (notN T e n)
 | 0 => by
  intro p c q h
  rw [notN] at h
  split at h
  ·cases h
  split at h
  ·cases h
  ·exact atomP_size _ _ _ h
 | n + 1 => by
  intro p c q h
  rw [notN] at h
  split at h
  ·obtain ⟨c1, q1, h1, h2⟩ := wrapNot_ok h
   simp only [Prod.mk.injEq] at h2
   have := notN_size n _ _ _ h1
   rw [h2.1, h2.2, cond0, sizeC, sizeL, sizeL]; omega
  split at h
  ·obtain ⟨c1, q1, h1, h2⟩ := closeP_ok h
   have := kidsP_size (kidsP_size (notN_size n)) _ _ _ h1
   cases ht : takeP T e 4 q1 with
   | error x => rw [ht] at h2; cases h2
   | ok x =>
    obtain ⟨t, q2⟩ := x
    have := takeP_mono ht
    rw [ht] at h2
    simp only [closeK] at h2
    have h4 := Except.ok.inj h2; simp only [Prod.mk.injEq] at h4
    rw [← h4.1]; omega
  ·exact atomP_size _ _ _ h
theorem condP_size : Sized (condP T e) := kidsP_size (kidsP_size (notN_size 30))
end
end Go.Proofs.YtdlahgamdigkhaaDoor.Pu
namespace Go.Proofs.YtdlahgamdigkhaaDoor.Sn
open Go.RowKit Go.Proofs.YtdlahgamdigkhaaDoor.Pr Go.Proofs.YtdlahgamdigkhaaDoorW.PrintWords Go.Proofs.YtdlahgamdigkhaaDoorW.PrintLast Go.Proofs.YtdlahgamdigkhaaDoorW.PrintMore
open Go.Proofs.YtdlahgamdigkhaaDoor.Ps hiding Tk
open Go.Proofs.YtdlahgamdigkhaaDoor.Pu (sizeC sizeL sizeC_eq sizeL_len size_mem)
theorem is_word {s : ByteArray} (w : ByteArray) {l : List UInt8} (hw : w.toList = l) : (s.toList = l) = (s = w) := by
 rw [← hw]; exact propext bytes_toList
theorem empty_bytes {s : ByteArray} : (s.toList = []) = (s = ⟨#[]⟩) := is_word ⟨#[]⟩ (by decide +kernel)
theorem atom_f (a : At) (k : Nat) : sound_atom.f (k + 1) a.f0 a.f1 = some (atomB a) := by
 obtain ⟨a0, a1⟩ := a
 have b : ∀ (x y : ByteArray), (x.toList == y.toList) = decide (x = y) := fun x y => by
  by_cases h : x = y
  ·rw [h]; simp
  ·rw [decide_eq_false h]; exact beq_eq_false_iff_ne.2 (fun he => h (bytes_toList.1 he))
 have bc : (a0.toList == ([99, 111, 114, 115] : List UInt8)) = decide (a0 = wCors) := by rw [← b, show wCors.toList = [99, 111, 114, 115] from by decide +kernel]
 have b1 : (a1.toList == ([] : List UInt8)) = decide (a1 = ⟨#[]⟩) := by rw [← b, show (⟨#[]⟩ : ByteArray).toList = [] from by decide +kernel]
 simp only [sound_atom.f, sound_atom.j0, bc, b1, is_word wSame (l := [115, 97, 109, 101, 45, 111, 114, 105, 103, 105, 110]) (by decide +kernel), is_word wTrusted (l := [116, 114, 117, 115, 116, 101, 100]) (by decide +kernel), is_word wCreds (l := [99, 114, 101, 100, 115]) (by decide +kernel),
  is_word wMethod (l := [109, 101, 116, 104, 111, 100]) (by decide +kernel), is_word wDest (l := [100, 101, 115, 116]) (by decide +kernel), is_word wScheme (l := [115, 99, 104, 101, 109, 101]) (by decide +kernel), is_word wHeader (l := [104, 101, 97, 100, 101, 114]) (by decide +kernel), is_word wHost (l := [104, 111, 115, 116]) (by decide +kernel), is_word wPath (l := [112, 97, 116, 104]) (by decide +kernel), atomB, bareW, textW, memB, List.any_cons, List.any_nil]
 have e1 : ∀ (w : ByteArray) (l : List UInt8), w.toList = l → (w.toList == l) = true := fun w l h => by rw [h]; exact beq_self_eq_true l
 by_cases h1 : a0 = wSame
 ·subst h1; simp only [if_true, decide_true, Bool.true_or]; rw [e1 wSame _ (by decide +kernel)]; rfl
 by_cases h2 : a0 = wTrusted
 ·subst h2; simp only [if_neg h1, if_true, decide_true, Bool.true_or, Bool.or_true]; rw [e1 wTrusted _ (by decide +kernel)]; rfl
 by_cases h3 : a0 = wCreds
 ·subst h3; simp only [if_neg h1, if_neg h2, if_true, decide_true, Bool.true_or, Bool.or_true]; rw [e1 wCreds _ (by decide +kernel)]; rfl
 by_cases h4 : a0 = wCors
 ·subst h4; simp only [if_neg h1, if_neg h2, if_neg h3, decide_true, if_true, Bool.true_or, Bool.or_true]
 simp only [if_neg h1, if_neg h2, if_neg h3, decide_eq_false h1, decide_eq_false h2, decide_eq_false h3, decide_eq_false h4, Bool.or_false, Bool.false_or, Bool.false_eq_true, if_false]
 by_cases g1 : a0 = wMethod
 ·simp [g1]
 by_cases g2 : a0 = wDest
 ·simp [g2]
 by_cases g3 : a0 = wScheme
 ·simp [g3]
 by_cases g4 : a0 = wHeader
 ·simp [g4]
 by_cases g5 : a0 = wHost
 ·simp [g5]
 by_cases g6 : a0 = wPath
 ·simp [g6]
 simp [g1, g2, g3, g4, g5, g6]
theorem atom_calls (a : At) (w : World) : Calls Tryd.prog 32 #[.agg #[.string a.f0, .string a.f1]] w fun e w' => e = .returned (.bool (atomB a)) ∧ Below w.heap.size w w' :=
 (sound_atom.calls 1 a.f0 a.f1 _ w (atom_f a 0)).mono fun e w' h => ⟨h.1, by have := h.2; first | exact this | exact this.below⟩
def cdV (c : Cd) (A : Option Addr) (c3 : Nat) : Value := .agg #[.int .i64 c.f0, .string c.f1.f0, .string c.f1.f1, .slice A c.f2.length c3]
def TrC (c : Cd) : Prop := ∀ (A : Option Addr) (c3 : Nat) (w : World), k39.C w A c.f2.length c.f2 → c.f2.length ≤ c3 → Calls Tryd.prog 18 #[cdV c A c3] w fun e w' => e = .returned (.bool (treeB c)) ∧ Below w.heap.size w w'
set_option maxHeartbeats 16000000
set_option maxRecDepth 100000
theorem every_calls (l : List Cd) (hall : ∀ c ∈ l, TrC c) (hn : l.length ≤ 1000000) (A : Option Addr) (n cap : Nat) (w : World) (hC : k39.C w A l.length l) (hnl : n = l.length) :
  Calls Tryd.prog 33 #[.slice A n cap] w fun e w' => e = .returned (.bool (everyB l)) ∧ Below w.heap.size w w' := by
 have HAL := Aside0.mk hall
 have HC := Aside0.mk hC
 have HN := Aside0.mk hnl
 have HL := Aside0.mk hn
 have HE := Aside0.mk (everyB_all l)
 obtain ⟨b, hb⟩ : ∃ b, b = everyB l := ⟨_, rfl⟩
 rw [← hb] at HE ⊢
 clear hall hC hnl hn hb
 go_enter Tryd.func33, Tryd.ntmps33
 go_wp2
 go_loopg [7] l.length (fun gk v7 wr => ∃ (i : Nat), v7 = .int .i64 i ∧ Aside0 (i ≤ l.length) ∧ Aside0 (l.length - i ≤ gk) ∧ Aside0 ((l.take i).all treeB = true) ∧ Aside0 (Below w.heap.size w wr))
 case atStart => exact ⟨0, rfl, ⟨Nat.zero_le _⟩, ⟨Nat.sub_le _ _⟩, ⟨rfl⟩, ⟨Below.refl _ _⟩⟩
 case round =>
  obtain ⟨i, rfl, HI, HGK, HR, HB⟩ := hrel
  by_cases hi : i < n
  ·have l1 : decide (i < n) = true := decide_eq_true hi
   have l2 : decide ((i : Int) < (n : Int)) = true := decide_eq_true (by omega)
   have l3 : (i : Int) < (n : Int) := by omega
   have HIL : Aside0 (i < l.length) := ⟨by rw [← HN.out]; exact hi⟩
   have hib : (i : Int) ≤ 1000000 := by have := HL.out; have := HIL.out; omega
   obtain ⟨ad, A3, c3, hA, q0, q1, q2, q3, hl3, hC3⟩ := at_T39 HC.out (i : Int) (by omega) (by have := HIL.out; omega)
   have hA2 : A = some ad := hA
   subst hA2
   obtain ⟨x, hx⟩ : ∃ x, x = rd_T39 l (i : Int) := ⟨_, rfl⟩
   have HX : Aside0 (x = l[i]'HIL.out) := ⟨by rw [hx]; have := HIL.out; simp [rd_T39, this]⟩
   rw [← hx] at q0 q1 q2 q3 hl3 hC3
   simp only [Int.toNat_natCast] at q0 q1 q2 q3
   replace q0 := (HB.out.cell (World.block_lt_of_cell? w _ q0)).trans q0
   replace q1 := (HB.out.cell (World.block_lt_of_cell? w _ q1)).trans q1
   replace q2 := (HB.out.cell (World.block_lt_of_cell? w _ q2)).trans q2
   replace q3 := (HB.out.cell (World.block_lt_of_cell? w _ q3)).trans q3
   have hbl := World.block_lt_of_cell? wr _ q0
   obtain ⟨m, hm⟩ : ∃ m, m = x.f2.length := ⟨_, rfl⟩
   rw [← hm] at q3
   obtain ⟨wb, hwb⟩ : ∃ wb, wb = (wr.alloc (.cells #[.int .i64 0, .string ⟨#[]⟩, .string ⟨#[]⟩, .slice none 0 0] 39)).setRow wr.heap.size #[.int .i64 x.f0, .string x.f1.f0, .string x.f1.f1, .slice A3 m c3] := ⟨_, rfl⟩
   have HBB : Aside0 (Below wr.heap.size wr wb) := ⟨by rw [hwb]; exact below_setRow (below_alloc (Below.refl _ _) _) (Nat.le_refl _) _⟩
   have HXX : Aside0 (wb.heap[wr.heap.size]? = some (.cells #[.int .i64 x.f0, .string x.f1.f0, .string x.f1.f1, .slice A3 m c3] 39 (0, 0))) := ⟨by rw [hwb]; exact setRow_heap _ _ _ _ _ _ (blk_new wr (.cells #[.int .i64 0, .string ⟨#[]⟩, .string ⟨#[]⟩, .slice none 0 0] 39))⟩
   have hmem : x ∈ l := by rw [HX.out]; exact List.getElem_mem _
   have h5 := HAL.out x hmem A3 c3 wb (Kd.C_below hC3 (HB.out.trans (HBB.out.mono HB.out.size))) hl3
   unfold cdV at h5
   rw [← hm] at h5
   have H5 := Aside0.mk h5
   have HWB := Aside0.mk hwb
   clear hwb h5 hx hA hC3 hl3 hm hmem hi
   obtain ⟨x0, hx0⟩ : ∃ x0, x0 = x.f0 := ⟨_, rfl⟩
   obtain ⟨x1, hx1⟩ : ∃ x1, x1 = x.f1.f0 := ⟨_, rfl⟩
   obtain ⟨x2, hx2⟩ : ∃ x2, x2 = x.f1.f1 := ⟨_, rfl⟩
   rw [← hx0, ← hx1, ← hx2] at HXX HWB
   rw [← hx0] at q0
   rw [← hx1] at q1
   rw [← hx2] at q2
   obtain ⟨tx, htx⟩ : ∃ tx, tx = treeB x := ⟨_, rfl⟩
   rw [← htx, ← hx0, ← hx1, ← hx2] at H5
   have HTX : Aside0 ((l.take (i + 1)).all treeB = ((l.take i).all treeB && tx)) := ⟨by rw [List.take_add_one, List.all_append, List.getElem?_eq_getElem HIL.out, htx, HX.out]; simp⟩
   have HTA : Aside0 (tx = false → b = false) := ⟨fun h => by rw [HE.out]; refine List.all_eq_false.2 ⟨x, by rw [HX.out]; exact List.getElem_mem _, by rw [← htx, h]; decide⟩⟩
   clear hx0 hx1 hx2 htx
   go_upto_region 4 with (refine wpList_store_row rfl 39 _ _ rfl wr.heap.size #[.int .i64 x0, .string x1, .string x2, .slice A3 m c3] rfl rfl 39 #[.int .i64 0, .string ⟨#[]⟩, .string ⟨#[]⟩, .slice none 0 0] (blk_new _ _) size_cd rfl (by simp [Value.oneCell']) ?_)
   rw [← HWB.out]
   clear HWB q0 q1 q2 q3 hbl
   cases tx
   ·have hbf := HTA.out rfl
    go_wp2_with (refine wpList_load_row rfl 39 _ rfl wr.heap.size rfl 39 #[.int .i64 x0, .string x1, .string x2, .slice A3 m c3] (0, 0) _ HXX.out Tryd.underlying39 rfl size_cd ?_)
    refine H5.out.mono ?_
    rintro e w6 ⟨rfl, hb6⟩
    dsimp only
    have HB6 : Aside0 (Below w.heap.size w w6) := ⟨HB.out.trans ((HBB.out.trans (hb6.mono HBB.out.size)).mono HB.out.size)⟩
    have HBF := Aside0.mk hbf
    clear hb6 HB HR HBB HXX H5 hbf
    go_wp2
    go_ret
    exact ⟨by rw [HBF.out]; first | done | rfl, HB6.out⟩
   ·have HT2 : Aside0 ((l.take (i + 1)).all treeB = true) := ⟨by rw [HTX.out, HR.out]; rfl⟩
    go_wp2_with (refine wpList_load_row rfl 39 _ rfl wr.heap.size rfl 39 #[.int .i64 x0, .string x1, .string x2, .slice A3 m c3] (0, 0) _ HXX.out Tryd.underlying39 rfl size_cd ?_)
    refine H5.out.mono ?_
    rintro e w6 ⟨rfl, hb6⟩
    dsimp only
    have HB6 : Aside0 (Below w.heap.size w w6) := ⟨HB.out.trans ((HBB.out.trans (hb6.mono HBB.out.size)).mono HB.out.size)⟩
    clear hb6 HB HR HBB HXX H5
    go_wp2
    go_roundg (l.length - (i + 1))
    case measure => have := HGK.out; have := HIL.out; omega
    case rel => exact ⟨i + 1, by first | rfl | go_num, ⟨HIL.out⟩, ⟨Nat.le_refl _⟩, HT2, HB6⟩
  ·have l1 : decide (i < n) = false := decide_eq_false hi
   have l2 : decide ((i : Int) < (n : Int)) = false := decide_eq_false (by omega)
   have l3 : ¬ (i : Int) < (n : Int) := by omega
   have HBT : Aside0 (b = true) := ⟨by
    rw [HE.out]
    have h := HR.out
    rwa [List.take_of_length_le (by have := HN.out; omega)] at h⟩
   clear hi HR
   go_wp2
   go_ret
   exact ⟨by rw [HBT.out]; first | done | rfl, HB.out⟩
theorem tree_atom (k : Int) (a0 a1 : ByteArray) (l : List Cd) (n : Nat) (hn : n = l.length) (A : Option Addr) (c3 : Nat) (w : World) (b : Bool) (hb : treeB ⟨k, ⟨a0, a1⟩, l⟩ = b) (hk : k = 3) :
  Calls Tryd.prog 18 #[.agg #[.int .i64 k, .string a0, .string a1, .slice A n c3]] w fun e w' => e = .returned (.bool b) ∧ Below w.heap.size w w' := by
 subst hk
 obtain ⟨w1, hw1⟩ : ∃ w1, w1 = w.alloc (.cells #[.int .i64 3, .string a0, .string a1, .slice A n c3] 39) := ⟨_, rfl⟩
 have HX : Aside0 (w1.heap[w.heap.size]? = some (.cells #[.int .i64 3, .string a0, .string a1, .slice A n c3] 39 (0, 0))) := ⟨by rw [hw1]; exact blk_new _ _⟩
 have HB1 : Aside0 (Below w.heap.size w w1) := ⟨by rw [hw1]; exact below_alloc (Below.refl _ _) _⟩
 have HW1 := Aside0.mk hw1
 have HWS : w.heap.size < w1.heap.size := blk_lt HX.out
 have t0 : w1.cell? ⟨w.heap.size, 0, none⟩ = some (.int .i64 3) := blk_cell HX.out 0
 have t1 : w1.cell? ⟨w.heap.size, 1, none⟩ = some (.string a0) := blk_cell HX.out 1
 have t2 : w1.cell? ⟨w.heap.size, 2, none⟩ = some (.string a1) := blk_cell HX.out 2
 have t3 : w1.cell? ⟨w.heap.size, 3, none⟩ = some (.slice A n c3) := blk_cell HX.out 3
 clear hw1
 have HA := Aside0.mk (fun w => atom_calls ⟨a0, a1⟩ w)
 by_cases h0 : n = 0
 ·have HBB : Aside0 (b = atomB ⟨a0, a1⟩) := ⟨by rw [← hb, treeB_eq]; have : l = [] := List.length_eq_zero_iff.1 (by omega); subst this; simp⟩
  clear hb hn
  subst h0
  go_enter Tryd.func18, Tryd.ntmps18
  go_upto_region 1 with (fail)
  rw [← HW1.out]
  go_wp2_with fail
  refine (HA.out _).mono ?_
  rintro e w2 ⟨rfl, hb2⟩
  dsimp only
  have HB2 : Aside0 (Below w.heap.size w w2) := ⟨HB1.out.trans (hb2.mono HB1.out.size)⟩
  clear hb2 HA t0 t1 t2 t3
  go_wp2
  go_ret
  exact ⟨by rw [HBB.out]; first | done | rfl, HB2.out⟩
 ·have HBB : Aside0 (b = false) := ⟨by rw [← hb, treeB_eq]; cases l with | nil => exact absurd hn h0 | cons _ _ => simp⟩
  have e0 : ((n : Int) == 0) = false := by simp [h0]
  clear hb hn HA
  go_enter Tryd.func18, Tryd.ntmps18
  go_upto_region 1 with (fail)
  rw [← HW1.out]
  go_wp2_with fail
  go_ret
  exact ⟨by rw [HBB.out]; first | done | rfl, HB1.out⟩
theorem tree_odd (k : Int) (a0 a1 : ByteArray) (l : List Cd) (n : Nat) (hn : n = l.length) (A : Option Addr) (c3 : Nat) (w : World) (b : Bool) (hb : treeB ⟨k, ⟨a0, a1⟩, l⟩ = b) (hk : k ≠ 3) (p0 p1 : Bool) (q0 : (a0.toList == ([] : List UInt8)) = p0) (q1 : (a1.toList == ([] : List UInt8)) = p1) (hp : (p0 && p1) = false) :
    Calls Tryd.prog 18 #[.agg #[.int .i64 k, .string a0, .string a1, .slice A n c3]] w fun e w' => e = .returned (.bool b) ∧ Below w.heap.size w w' := by
  have HBB : Aside0 (b = false) := ⟨by
    rw [← hb, treeB_eq, decide_eq_false hk, Bool.false_or]
    have : noAtom ⟨a0, a1⟩ = false := by
      rw [noAtom]
      cases h : (decide (a0 = ⟨#[]⟩) && decide (a1 = ⟨#[]⟩)) with
      | false => rfl
      | true =>
        rw [Bool.and_eq_true, decide_eq_true_eq, decide_eq_true_eq] at h
        obtain ⟨rfl, rfl⟩ := h
        rw [← q0, ← q1] at hp
        exact absurd hp (by decide +kernel)
    rw [this, Bool.false_and]⟩
  obtain ⟨w1, hw1⟩ : ∃ w1, w1 = w.alloc (.cells #[.int .i64 k, .string a0, .string a1, .slice A n c3] 39) := ⟨_, rfl⟩
  have HX : Aside0 (w1.heap[w.heap.size]? = some (.cells #[.int .i64 k, .string a0, .string a1, .slice A n c3] 39 (0, 0))) := ⟨by rw [hw1]; exact blk_new _ _⟩
  have HB1 : Aside0 (Below w.heap.size w w1) := ⟨by rw [hw1]; exact below_alloc (Below.refl _ _) _⟩
  have HW1 := Aside0.mk hw1
  have HWS : w.heap.size < w1.heap.size := blk_lt HX.out
  have t0 : w1.cell? ⟨w.heap.size, 0, none⟩ = some (.int .i64 k) := blk_cell HX.out 0
  have t1 : w1.cell? ⟨w.heap.size, 1, none⟩ = some (.string a0) := blk_cell HX.out 1
  have t2 : w1.cell? ⟨w.heap.size, 2, none⟩ = some (.string a1) := blk_cell HX.out 2
  have t3 : w1.cell? ⟨w.heap.size, 3, none⟩ = some (.slice A n c3) := blk_cell HX.out 3
  clear hw1
  have l3 : (k != (3 : Int)) = true := bne_iff_ne.2 hk
  clear hb hn hk
  cases p0 <;> cases p1 <;> first
  | exact absurd hp (by decide)
  | (clear hp
     go_enter Tryd.func18, Tryd.ntmps18
     go_upto_region 1 with (fail)
     rw [← HW1.out]
     go_wp2_with fail
     go_ret
     exact ⟨by rw [HBB.out]; first | done | rfl, HB1.out⟩)
theorem tree_leaf (k : Int) (a0 a1 : ByteArray) (l : List Cd) (n : Nat) (hn : n = l.length) (A : Option Addr) (c3 : Nat) (w : World) (b : Bool) (hb : treeB ⟨k, ⟨a0, a1⟩, l⟩ = b) (hk : k = 1 ∨ k = 2) (h0 : a0 = ⟨#[]⟩) (h1 : a1 = ⟨#[]⟩) :
  Calls Tryd.prog 18 #[.agg #[.int .i64 k, .string a0, .string a1, .slice A n c3]] w fun e w' => e = .returned (.bool b) ∧ Below w.heap.size w w' := by
 subst h0 h1
 obtain ⟨w1, hw1⟩ : ∃ w1, w1 = w.alloc (.cells #[.int .i64 k, .string ⟨#[]⟩, .string ⟨#[]⟩, .slice A n c3] 39) := ⟨_, rfl⟩
 have HX : Aside0 (w1.heap[w.heap.size]? = some (.cells #[.int .i64 k, .string ⟨#[]⟩, .string ⟨#[]⟩, .slice A n c3] 39 (0, 0))) := ⟨by rw [hw1]; exact blk_new _ _⟩
 have HB1 : Aside0 (Below w.heap.size w w1) := ⟨by rw [hw1]; exact below_alloc (Below.refl _ _) _⟩
 have HW1 := Aside0.mk hw1
 have HWS : w.heap.size < w1.heap.size := blk_lt HX.out
 have t0 : w1.cell? ⟨w.heap.size, 0, none⟩ = some (.int .i64 k) := blk_cell HX.out 0
 have t1 : w1.cell? ⟨w.heap.size, 1, none⟩ = some (.string ⟨#[]⟩) := blk_cell HX.out 1
 have t2 : w1.cell? ⟨w.heap.size, 2, none⟩ = some (.string ⟨#[]⟩) := blk_cell HX.out 2
 have t3 : w1.cell? ⟨w.heap.size, 3, none⟩ = some (.slice A n c3) := blk_cell HX.out 3
 clear hw1
 have HBB : Aside0 (b = decide (n = 0)) := ⟨by
  rw [← hb, treeB_eq, if_pos hk, hn]
  cases l <;> simp [noAtom]⟩
 clear hb hn
 by_cases h0 : n = 0
 ·subst h0
  rcases hk with rfl | rfl
  ·exact sAt6_0
  ·exact sAt6_0
 ·have e0 : ((n : Int) == 0) = false := by simp [h0]
  have e1 : decide (n = 0) = false := decide_eq_false h0
  rw [e1] at HBB
  rcases hk with rfl | rfl
  ·exact sAt6_0
  ·exact sAt6_0
theorem tree_not (k : Int) (a0 a1 : ByteArray) (l : List Cd) (hall : ∀ c ∈ l, TrC c) (hl : l.length ≤ 1000000) (n : Nat) (hn : n = l.length) (A : Option Addr) (c3 : Nat) (w : World) (hC : k39.C w A l.length l) (b : Bool) (hb : treeB ⟨k, ⟨a0, a1⟩, l⟩ = b) (hk : k = 4) (h0 : a0 = ⟨#[]⟩) (h1 : a1 = ⟨#[]⟩) :
  Calls Tryd.prog 18 #[.agg #[.int .i64 k, .string a0, .string a1, .slice A n c3]] w fun e w' => e = .returned (.bool b) ∧ Below w.heap.size w w' := by
 subst h0 h1
 obtain ⟨w1, hw1⟩ : ∃ w1, w1 = w.alloc (.cells #[.int .i64 k, .string ⟨#[]⟩, .string ⟨#[]⟩, .slice A n c3] 39) := ⟨_, rfl⟩
 have HX : Aside0 (w1.heap[w.heap.size]? = some (.cells #[.int .i64 k, .string ⟨#[]⟩, .string ⟨#[]⟩, .slice A n c3] 39 (0, 0))) := ⟨by rw [hw1]; exact blk_new _ _⟩
 have HB1 : Aside0 (Below w.heap.size w w1) := ⟨by rw [hw1]; exact below_alloc (Below.refl _ _) _⟩
 have HW1 := Aside0.mk hw1
 have HWS : w.heap.size < w1.heap.size := blk_lt HX.out
 have t0 : w1.cell? ⟨w.heap.size, 0, none⟩ = some (.int .i64 k) := blk_cell HX.out 0
 have t1 : w1.cell? ⟨w.heap.size, 1, none⟩ = some (.string ⟨#[]⟩) := blk_cell HX.out 1
 have t2 : w1.cell? ⟨w.heap.size, 2, none⟩ = some (.string ⟨#[]⟩) := blk_cell HX.out 2
 have t3 : w1.cell? ⟨w.heap.size, 3, none⟩ = some (.slice A n c3) := blk_cell HX.out 3
 clear hw1
 have HEV : Aside0 _ := ⟨every_calls l hall hl A n c3 w1 (Kd.C_below hC HB1.out) hn⟩
 have HBB : Aside0 (b = (decide (l.length = 1) && everyB l)) := ⟨by
  rw [← hb, treeB_eq]
  subst hk; simp [noAtom]⟩
 rw [← hn] at HBB
 clear hb hC hall hl
 have HN := Aside0.mk hn
 clear hn
 by_cases h0 : n = 1
 ·rw [decide_eq_true h0, Bool.true_and] at HBB
  have e0 : ((n : Int) == 1) = true := by simp [h0]
  clear h0
  rcases hk with rfl
  ·exact sAt6_2
 ·rw [decide_eq_false h0, Bool.false_and] at HBB
  have e0 : ((n : Int) == 1) = false := by simp; omega
  clear h0 HEV
  rcases hk with rfl
  ·exact sAt6_0
theorem tree_many (k : Int) (a0 a1 : ByteArray) (l : List Cd) (hall : ∀ c ∈ l, TrC c) (hl : l.length ≤ 1000000) (n : Nat) (hn : n = l.length) (A : Option Addr) (c3 : Nat) (w : World) (hC : k39.C w A l.length l) (b : Bool) (hb : treeB ⟨k, ⟨a0, a1⟩, l⟩ = b) (hk : k = 5 ∨ k = 6) (h0 : a0 = ⟨#[]⟩) (h1 : a1 = ⟨#[]⟩) :
  Calls Tryd.prog 18 #[.agg #[.int .i64 k, .string a0, .string a1, .slice A n c3]] w fun e w' => e = .returned (.bool b) ∧ Below w.heap.size w w' := by
 subst h0 h1
 obtain ⟨w1, hw1⟩ : ∃ w1, w1 = w.alloc (.cells #[.int .i64 k, .string ⟨#[]⟩, .string ⟨#[]⟩, .slice A n c3] 39) := ⟨_, rfl⟩
 have HX : Aside0 (w1.heap[w.heap.size]? = some (.cells #[.int .i64 k, .string ⟨#[]⟩, .string ⟨#[]⟩, .slice A n c3] 39 (0, 0))) := ⟨by rw [hw1]; exact blk_new _ _⟩
 have HB1 : Aside0 (Below w.heap.size w w1) := ⟨by rw [hw1]; exact below_alloc (Below.refl _ _) _⟩
 have HW1 := Aside0.mk hw1
 have HWS : w.heap.size < w1.heap.size := blk_lt HX.out
 have t0 : w1.cell? ⟨w.heap.size, 0, none⟩ = some (.int .i64 k) := blk_cell HX.out 0
 have t1 : w1.cell? ⟨w.heap.size, 1, none⟩ = some (.string ⟨#[]⟩) := blk_cell HX.out 1
 have t2 : w1.cell? ⟨w.heap.size, 2, none⟩ = some (.string ⟨#[]⟩) := blk_cell HX.out 2
 have t3 : w1.cell? ⟨w.heap.size, 3, none⟩ = some (.slice A n c3) := blk_cell HX.out 3
 clear hw1
 have HEV : Aside0 _ := ⟨every_calls l hall hl A n c3 w1 (Kd.C_below hC HB1.out) hn⟩
 have HBB : Aside0 (b = (decide (2 ≤ l.length) && everyB l)) := ⟨by
  rw [← hb, treeB_eq]
  rcases hk with rfl | rfl <;> simp [noAtom]⟩
 rw [← hn] at HBB
 clear hb hC hall hl
 have HN := Aside0.mk hn
 clear hn
 by_cases h0 : 2 ≤ n
 ·rw [decide_eq_true h0, Bool.true_and] at HBB
  have e0 : decide ((2 : Int) ≤ (n : Int)) = true := decide_eq_true (by omega)
  have e2 : (2 : Int) ≤ (n : Int) := by omega
  clear h0
  rcases hk with rfl | rfl
  ·exact sAt6_2
  ·exact sAt6_2
 ·rw [decide_eq_false h0, Bool.false_and] at HBB
  have e0 : decide ((2 : Int) ≤ (n : Int)) = false := decide_eq_false (by omega)
  have e2 : ¬ (2 : Int) ≤ (n : Int) := by omega
  clear h0 HEV
  rcases hk with rfl | rfl
  ·exact sAt6_0
  ·exact sAt6_0
theorem tree_none (k : Int) (a0 a1 : ByteArray) (l : List Cd) (n : Nat) (hn : n = l.length) (A : Option Addr) (c3 : Nat) (w : World) (b : Bool) (hb : treeB ⟨k, ⟨a0, a1⟩, l⟩ = b) (hk : ¬ (k = 1 ∨ k = 2 ∨ k = 3 ∨ k = 4 ∨ k = 5 ∨ k = 6)) (h0 : a0 = ⟨#[]⟩) (h1 : a1 = ⟨#[]⟩) :
  Calls Tryd.prog 18 #[.agg #[.int .i64 k, .string a0, .string a1, .slice A n c3]] w fun e w' => e = .returned (.bool b) ∧ Below w.heap.size w w' := by
 subst h0 h1
 obtain ⟨w1, hw1⟩ : ∃ w1, w1 = w.alloc (.cells #[.int .i64 k, .string ⟨#[]⟩, .string ⟨#[]⟩, .slice A n c3] 39) := ⟨_, rfl⟩
 have HX : Aside0 (w1.heap[w.heap.size]? = some (.cells #[.int .i64 k, .string ⟨#[]⟩, .string ⟨#[]⟩, .slice A n c3] 39 (0, 0))) := ⟨by rw [hw1]; exact blk_new _ _⟩
 have HB1 : Aside0 (Below w.heap.size w w1) := ⟨by rw [hw1]; exact below_alloc (Below.refl _ _) _⟩
 have HW1 := Aside0.mk hw1
 have HWS : w.heap.size < w1.heap.size := blk_lt HX.out
 have t0 : w1.cell? ⟨w.heap.size, 0, none⟩ = some (.int .i64 k) := blk_cell HX.out 0
 have t1 : w1.cell? ⟨w.heap.size, 1, none⟩ = some (.string ⟨#[]⟩) := blk_cell HX.out 1
 have t2 : w1.cell? ⟨w.heap.size, 2, none⟩ = some (.string ⟨#[]⟩) := blk_cell HX.out 2
 have t3 : w1.cell? ⟨w.heap.size, 3, none⟩ = some (.slice A n c3) := blk_cell HX.out 3
 clear hw1
 have HBB : Aside0 (b = false) := ⟨by
  rw [← hb, treeB_eq]
  simp only
  rw [if_neg (by omega), if_neg (by omega), if_neg (by omega), if_neg (by omega), Bool.and_false]⟩
 have l1 : (k == (1 : Int)) = false := by simp; omega
 have l2 : (k == (2 : Int)) = false := by simp; omega
 have l3 : (k == (3 : Int)) = false := by simp; omega
 have l3b : (k != (3 : Int)) = true := bne_iff_ne.2 (by omega)
 have l4 : (k == (4 : Int)) = false := by simp; omega
 have l5 : (k == (5 : Int)) = false := by simp; omega
 have l6 : (k == (6 : Int)) = false := by simp; omega
 clear hb hn hk
 go_enter Tryd.func18, Tryd.ntmps18
 go_upto_region 1 with (fail)
 rw [← HW1.out]
 go_wp2_with fail
 go_ret
 exact ⟨by rw [HBB.out]; first | done | rfl, HB1.out⟩
theorem tree_calls : ∀ (N : Nat) (c : Cd), sizeC c ≤ N → N ≤ 1000000 → TrC c
 | 0, c, h, _ => by rw [sizeC_eq] at h; omega
 | N + 1, c, h, hN => by
  rw [sizeC_eq] at h
  have hall : ∀ d ∈ c.f2, TrC d := fun d hd => tree_calls N d (by have := size_mem hd; omega) (by omega)
  have hl : c.f2.length ≤ 1000000 := by have := sizeL_len c.f2; omega
  intro A c3 w hC hc
  obtain ⟨k, ⟨a0, a1⟩, l⟩ := c
  simp only at hall hl hC hc
  unfold cdV
  simp only
  by_cases h3 : k = 3
  ·exact tree_atom k a0 a1 l _ rfl A c3 w _ rfl h3
  by_cases hn : a0 = ⟨#[]⟩ ∧ a1 = ⟨#[]⟩
  ·obtain ⟨h0, h1⟩ := hn
   by_cases h12 : k = 1 ∨ k = 2
   ·exact tree_leaf k a0 a1 l _ rfl A c3 w _ rfl h12 h0 h1
   by_cases h4 : k = 4
   ·exact tree_not k a0 a1 l hall hl _ rfl A c3 w hC _ rfl h4 h0 h1
   by_cases h56 : k = 5 ∨ k = 6
   ·exact tree_many k a0 a1 l hall hl _ rfl A c3 w hC _ rfl h56 h0 h1
   exact tree_none k a0 a1 l _ rfl A c3 w _ rfl (by omega) h0 h1
  ·refine tree_odd k a0 a1 l _ rfl A c3 w _ rfl h3 _ _ rfl rfl ?_
   cases h : (a0.toList == ([] : List UInt8) && a1.toList == ([] : List UInt8)) with
   | false => rfl
   | true =>
    rw [Bool.and_eq_true, beq_iff_eq, beq_iff_eq, empty_bytes, empty_bytes] at h
    exact absurd h hn
end Go.Proofs.YtdlahgamdigkhaaDoor.Sn
namespace Go.Proofs.YtdlahgamdigkhaaDoor.Sn
open Go.RowKit Go.Proofs.YtdlahgamdigkhaaDoor.Pr Go.Proofs.YtdlahgamdigkhaaDoorW.PrintWords Go.Proofs.YtdlahgamdigkhaaDoorW.PrintLast Go.Proofs.YtdlahgamdigkhaaDoorW.PrintMore Go.Proofs.YtdlahgamdigkhaaDoor.Lx
open Go.Proofs.YtdlahgamdigkhaaDoor.Ps hiding Tk
open Go.Proofs.YtdlahgamdigkhaaDoor.Pu
theorem dp_size : ∀ (N : Nat) (c : Cd), sizeC c ≤ N → dpC c ≤ N
 | 0, c, h => by rw [sizeC_eq] at h; omega
 | N + 1, c, h => by
  rw [sizeC_eq] at h
  rw [dpC_eq]
  have := dpL_le (n := N) (l := c.f2) (fun d hd => dp_size N d (by have := size_mem hd; omega))
  omega
theorem mx_nat (a b : Nat) : mx (a : Int) (b : Int) = ((max a b : Nat) : Int) := by unfold mx; split <;> omega
theorem depth_loop (l : List Cd) (h : ∀ c ∈ l, Ev (fun k => parse_Depth.f k c.f0 c.f1.f0 c.f1.f1 c.f2) (dpC c : Int)) (hb : ∀ c ∈ l, dpC c ≤ 1000000) (hl : l.length ≤ 1000000) : ∀ (m i x : Nat), i + m = l.length → x ≤ 1000000 →
  Ev (fun k => parse_Depth.l0 k (x : Int) l (l.length : Int) (i : Int)) ((max x (dpL (l.drop i)) + 1 : Nat) : Int)
 | 0, i, x, hi, hx => by
  refine Ev.step (f := fun _ => some ((x : Int) + 1)) (fun k => ?_) ((Ev.const fun _ => rfl).eq ?_)
  ·simp only [parse_Depth.l0]
   rw [if_neg (by omega), w64 (by omega) (by omega)]
  ·rw [List.drop_eq_nil_of_le (by omega), dpL]; omega
 | m + 1, i, x, hi, hx => by
  have hlt : i < l.length := by omega
  have hm := List.getElem_mem hlt
  have e1 : rd_T39 l (i : Int) = l[i] := by simp [rd_T39, hlt]
  have hd := hb _ hm
  have hr := depth_loop l h hb hl m (i + 1) (max x (dpC l[i])) (by omega) (by omega)
  refine Ev.step (f := fun k => (parse_Depth.f k (l[i]).f0 (l[i]).f1.f0 (l[i]).f1.f1 (l[i]).f2).bind fun t => parse_Depth.l0 k (mx (x : Int) t) l (l.length : Int) ((i + 1 : Nat) : Int)) (fun k => ?_) (Ev.bind (h _ hm) ((by rw [mx_nat]; exact hr : Ev _ _).eq ?_))
  ·simp only [parse_Depth.l0]
   rw [if_pos (by omega), if_pos (by omega), if_pos (by omega), w64 (by omega) (by omega), e1]
   rfl
  ·rw [List.drop_eq_getElem_cons hlt, dpL]; congr 1; omega
theorem depth_ev : ∀ (N : Nat) (c : Cd), sizeC c ≤ N → N ≤ 1000000 → Ev (fun k => parse_Depth.f k c.f0 c.f1.f0 c.f1.f1 c.f2) (dpC c : Int)
 | 0, c, h, _ => by rw [sizeC_eq] at h; omega
 | N + 1, c, h, hN => by
  rw [sizeC_eq] at h
  have hk : ∀ d ∈ c.f2, sizeC d ≤ N := fun d hd => by have := size_mem hd; omega
  have h1 := depth_loop c.f2 (fun d hd => depth_ev N d (hk d hd) (by omega)) (fun d hd => by have := dp_size N d (hk d hd); omega) (by have := sizeL_len c.f2; omega) c.f2.length 0 0 (by omega) (by omega)
  refine Ev.step (f := fun k => parse_Depth.l0 k 0 c.f2 (c.f2.length : Int) 0) (fun k => by rw [parse_Depth.f]) (h1.eq ?_)
  rw [dpC_eq, List.drop_zero]; omega
theorem depth_calls (c : Cd) (hz : sizeC c ≤ 1000000) (A : Option Addr) (c3 : Nat) (w : World) (hC : k39.C w A c.f2.length c.f2) (hc : c.f2.length ≤ c3) :
  Calls Tryd.prog 19 #[cdV c A c3] w fun e w' => e = .returned (.int .i64 (dpC c : Int)) ∧ Below w.heap.size w w' := by
 obtain ⟨k, hk⟩ := depth_ev _ c (Nat.le_refl _) hz
 exact parse_Depth.calls k c.f0 c.f1.f0 c.f1.f1 A c3 c.f2 _ w hC hc (hk k (Nat.le_refl _))
set_option maxHeartbeats 16000000
set_option maxRecDepth 100000
theorem cond_calls (c : Cd) (hz : sizeC c ≤ 1000000) (A : Option Addr) (c3 : Nat) (w : World) (hC : k39.C w A c.f2.length c.f2) (hc : c.f2.length ≤ c3) :
  Calls Tryd.prog 12 #[cdV c A c3] w fun e w' => e = .returned (.bool (condB c)) ∧ Below w.heap.size w w' := by
 have HD : Aside0 (∀ w2, Below w.heap.size w w2 → _) := ⟨fun w2 hb => depth_calls c hz A c3 w2 (Kd.C_below hC hb) hc⟩
 have HT : Aside0 (∀ w2, Below w.heap.size w w2 → _) := ⟨fun w2 hb => tree_calls _ c (Nat.le_refl _) hz A c3 w2 (Kd.C_below hC hb) hc⟩
 have HB : Aside0 (condB c = (treeB c && decide ((dpC c : Int) ≤ 70))) := ⟨by rw [condB]; congr 1; exact decide_eq_decide.2 (by omega)⟩
 obtain ⟨d, hd⟩ : ∃ d : Int, d = (dpC c : Int) := ⟨_, rfl⟩
 obtain ⟨b, hb⟩ : ∃ b, b = condB c := ⟨_, rfl⟩
 obtain ⟨t, ht⟩ : ∃ t, t = treeB c := ⟨_, rfl⟩
 rw [← hd, ← ht, ← hb] at HB
 rw [← hb]
 unfold cdV at HD HT ⊢
 rw [← hd] at HD
 rw [← ht] at HT
 obtain ⟨n, hn⟩ : ∃ n, n = c.f2.length := ⟨_, rfl⟩
 obtain ⟨x0, hx0⟩ : ∃ x0, x0 = c.f0 := ⟨_, rfl⟩
 obtain ⟨x1, hx1⟩ : ∃ x1, x1 = c.f1.f0 := ⟨_, rfl⟩
 obtain ⟨x2, hx2⟩ : ∃ x2, x2 = c.f1.f1 := ⟨_, rfl⟩
 rw [← hn, ← hx0, ← hx1, ← hx2] at HD HT ⊢
 clear hd hb ht hn hx0 hx1 hx2 hC hc hz
 obtain ⟨w1, hw1⟩ : ∃ w1, w1 = w.alloc (.cells #[.int .i64 x0, .string x1, .string x2, .slice A n c3] 39) := ⟨_, rfl⟩
 have HX : Aside0 (w1.heap[w.heap.size]? = some (.cells #[.int .i64 x0, .string x1, .string x2, .slice A n c3] 39 (0, 0))) := ⟨by rw [hw1]; exact blk_new _ _⟩
 have HB1 : Aside0 (Below w.heap.size w w1) := ⟨by rw [hw1]; exact below_alloc (Below.refl _ _) _⟩
 have HW1 := Aside0.mk hw1
 clear hw1
 cases t
 ·go_enter Tryd.func12, Tryd.ntmps12
  go_upto_region 1 with (fail)
  rw [← HW1.out]
  go_wp2_with (refine wpList_load_row rfl 39 _ rfl w.heap.size rfl 39 #[.int .i64 x0, .string x1, .string x2, .slice A n c3] (0, 0) _ HX.out Tryd.underlying39 rfl size_cd ?_)
  refine (HT.out w1 HB1.out).mono ?_
  rintro e w2 ⟨rfl, hb2⟩
  dsimp only
  have HB2 : Aside0 (Below w.heap.size w w2) := ⟨HB1.out.trans (hb2.mono HB1.out.size)⟩
  clear hb2 HD HT
  go_wp2
  go_ret
  exact ⟨by rw [HB.out]; first | done | rfl, HB2.out⟩
 ·go_enter Tryd.func12, Tryd.ntmps12
  go_upto_region 1 with (fail)
  rw [← HW1.out]
  go_wp2_with (refine wpList_load_row rfl 39 _ rfl w.heap.size rfl 39 #[.int .i64 x0, .string x1, .string x2, .slice A n c3] (0, 0) _ HX.out Tryd.underlying39 rfl size_cd ?_)
  refine (HT.out w1 HB1.out).mono ?_
  rintro e w2 ⟨rfl, hb2⟩
  dsimp only
  have HB2 : Aside0 (Below w.heap.size w w2) := ⟨HB1.out.trans (hb2.mono HB1.out.size)⟩
  have HX2 : Aside0 (w2.heap[w.heap.size]? = some (.cells #[.int .i64 x0, .string x1, .string x2, .slice A n c3] 39 (0, 0))) := ⟨blk_below HX.out hb2⟩
  have t0 : w2.cell? ⟨w.heap.size, 0, none⟩ = some (.int .i64 x0) := blk_cell HX2.out 0
  have t1 : w2.cell? ⟨w.heap.size, 1, none⟩ = some (.string x1) := blk_cell HX2.out 1
  have t2 : w2.cell? ⟨w.heap.size, 2, none⟩ = some (.string x2) := blk_cell HX2.out 2
  have t3 : w2.cell? ⟨w.heap.size, 3, none⟩ = some (.slice A n c3) := blk_cell HX2.out 3
  clear hb2 HT
  go_wp2_with fail
  refine (HD.out w2 HB2.out).mono ?_
  rintro e w3 ⟨rfl, hb3⟩
  dsimp only
  have HB3 : Aside0 (Below w.heap.size w w3) := ⟨HB2.out.trans (hb3.mono HB2.out.size)⟩
  clear hb3 HD
  go_wp2
  go_ret
  exact ⟨by rw [HB.out]; first | done | rfl, HB3.out⟩
end Go.Proofs.YtdlahgamdigkhaaDoor.Sn
namespace Go.Proofs.YtdlahgamdigkhaaDoor.Sn
open Go.RowKit Go.Maps Go.Proofs.YtdlahgamdigkhaaDoor.Pr Go.Proofs.YtdlahgamdigkhaaDoorW.PrintWords Go.Proofs.YtdlahgamdigkhaaDoorW.PrintLast Go.Proofs.YtdlahgamdigkhaaDoorW.PrintMore Go.Proofs.YtdlahgamdigkhaaDoor.Mp
open Go.Proofs.YtdlahgamdigkhaaDoor.Ps hiding Tk
structure AtS (lo : Nat) (X : Nat → Prop) (w : World) (bm bo gm : Nat) (L : List At) (N : Nat) : Prop where
 met : w.heap[bm]? = some (.cells #[.map (some gm)] 53 (0, 0))
 out : ∃ v, w.heap[bo]? = some (.cells #[v] 30 (0, 0)) ∧ k33.R 33 w lo (fun k => k ≠ bm ∧ k ≠ bo ∧ k ≠ gm ∧ ¬ X k) v L
 map : ∃ f s, MapO 33 encA w gm N f s ∧ (∀ a ∈ L, ∃ c : Nat, f a = some (c : Int) ∧ 1 ≤ c ∧ c ≤ N) ∧ ∀ a, a ∉ L → f a = none
 n1 : bm ≠ bo
 n2 : bm ≠ gm
 n3 : bo ≠ gm
 l1 : lo ≤ bm
 l2 : lo ≤ bo
 l3 : lo ≤ gm
 len : L.length ≤ N
 x1 : ¬ X bm
 x2 : ¬ X bo
 x3 : ¬ X gm
 xl : ∀ k, X k → k < w.heap.size
theorem info_at : (Tryd.prog.info? 33).map (fun i => (i.zero, i.size, i.bytes)) = some (some (.agg #[.string ⟨#[]⟩, .string ⟨#[]⟩]), k33.sz, 32) := by kernel_rfl
def MetA (f : At → Option Int) (L : List At) (N : Nat) : Prop := (∀ a ∈ L, ∃ c : Nat, f a = some (c : Int) ∧ 1 ≤ c ∧ c ≤ N) ∧ ∀ a, a ∉ L → f a = none
theorem mem_addA {L : List At} {a b : At} : b ∈ addA L a ↔ b ∈ L ∨ b = a := by
 unfold addA
 split
 ·exact ⟨.inl, fun h => h.elim id (fun h => by rw [h]; assumption)⟩
 ·simp
theorem met_add {f : At → Option Int} {L : List At} {N : Nat} (h : MetA f L N) (a : At) : MetA (put f a ((f a).getD 0 + 1)) (addA L a) (N + 1) := by
 refine ⟨fun b hb => ?_, fun b hb => ?_⟩
 ·by_cases e : b = a
  ·subst e
   rw [put, if_pos rfl]
   by_cases hm : b ∈ L
   ·obtain ⟨c, hc, h1, h2⟩ := h.1 b hm
    exact ⟨c + 1, by rw [hc]; rfl, by omega, by omega⟩
   ·exact ⟨1, by rw [h.2 b hm]; rfl, by omega, by omega⟩
  ·rw [put, if_neg e]
   obtain ⟨c, hc, h1, h2⟩ := h.1 b ((mem_addA.1 hb).resolve_right e)
   exact ⟨c, hc, h1, by omega⟩
 ·have e : b ≠ a := fun e => hb (mem_addA.2 (.inr e))
  rw [put, if_neg e]
  exact h.2 b (fun hm => hb (mem_addA.2 (.inl hm)))
theorem met_zero {f : At → Option Int} {L : List At} {N : Nat} (h : MetA f L N) (a : At) : (f a).getD 0 = 0 ↔ a ∉ L := by
 constructor
 ·intro h0 hm
  obtain ⟨c, hc, h1, _⟩ := h.1 a hm
  rw [hc, Option.getD_some] at h0
  omega
 ·intro hm; rw [h.2 a hm]; rfl
set_option maxHeartbeats 16000000
set_option maxRecDepth 100000
theorem add_calls (a : At) (h0 : a.f0.size ≤ 1000000) (h1 : a.f1.size ≤ 1000000) (lo : Nat) (X : Nat → Prop) (w : World) (bm bo gm : Nat) (L : List At) (N : Nat) (hS : AtS lo X w bm bo gm L N) (hN : N ≤ 1000000) :
  Calls Tryd.prog 16 #[.agg #[.string a.f0, .string a.f1], .pointer (some ⟨bm, 0, none⟩), .pointer (some ⟨bo, 0, none⟩)] w fun e w' => e = .returned (.tuple #[]) ∧ AtS lo X w' bm bo gm (addA L a) (N + 1) ∧ Below lo w w' ∧ Kept w w' (fun k => ¬ X k) := by
 obtain ⟨l, hkey⟩ := keyA a (by unfold maxLen; omega) (by unfold maxLen; omega)
 obtain ⟨f, s, hM, hin, hout⟩ := hS.map
 obtain ⟨v, hv, hR⟩ := hS.out
 obtain ⟨wb, hwb⟩ : ∃ wb, wb = w.alloc (.cells #[.string a.f0, .string a.f1] 33) := ⟨_, rfl⟩
 have hMb : MapO 33 encA wb gm N f s := by rw [hwb]; exact hM.below (below_alloc (Below.refl _ _) _)
 have hMd : MapO 33 encA wb.drew gm N f s := hMb.same rfl
 obtain ⟨c, hc⟩ : ∃ c, c = (f a).getD 0 := ⟨_, rfl⟩
 have hlk := hMd.lookRun (Keyed.of_law lawA) Tryd.underlying53 a hkey
 obtain ⟨st, w1, hen, hG1, hM1, hst⟩ := hMd.entry lawA encA_inj Tryd.underlying53 (by unfold maxLen; omega) a hkey
 have hlk1 := hM1.lookRun (Keyed.of_law lawA) Tryd.underlying53 a hkey
 have hpa : put f a ((f a).getD 0) a = some ((f a).getD 0) := by rw [put, if_pos rfl]
 rw [hpa] at hlk1
 rw [← hc] at hlk hen hM1
 rw [Option.getD_some, ← hc] at hlk1
 have hcb : 0 ≤ c ∧ c ≤ 1000000 := by
  rw [hc]
  by_cases hm : a ∈ L
  ·obtain ⟨d, hd, _, hdn⟩ := hin a hm
   rw [hd, Option.getD_some]; omega
  ·rw [hout a hm]; exact ⟨Int.le_refl _, by decide⟩
 obtain ⟨w2, hes, hG2, hM2⟩ := hst w1 (c + 1) (WalkArith.wf_i64 (by omega)) rfl
 obtain ⟨a0, ha0⟩ : ∃ a0, a0 = a.f0 := ⟨_, rfl⟩
 obtain ⟨a1, ha1⟩ : ∃ a1, a1 = a.f1 := ⟨_, rfl⟩
 unfold encA at hlk hlk1 hen
 rw [← ha0, ← ha1] at hlk hlk1 hen hwb ⊢
 have b0 : wb.cell? ⟨w.heap.size, 0, none⟩ = some (.string a0) := by rw [hwb]; exact blk_cell (blk_new _ _) 0
 have b1 : wb.cell? ⟨w.heap.size, 1, none⟩ = some (.string a1) := by rw [hwb]; exact blk_cell (blk_new _ _) 1
 have b2 : wb.cell? ⟨bm, 0, none⟩ = some (.map (some gm)) := by rw [hwb]; exact blk_cell (blk_alloc hS.met _) 0
 have hszb : w.heap.size < wb.heap.size := World.block_lt_of_cell? wb _ b0
 have hgm : gm < w.heap.size := hM.lt
 have hbm : bm < w.heap.size := blk_lt hS.met
 have hbo : bo < w.heap.size := blk_lt hv
 have hX0 : wb.drew.heap[w.heap.size]? = some (.cells #[.string a0, .string a1] 33 (0, 0)) := by rw [hwb]; exact blk_new _ _
 have hX1 := (hG1.block w.heap.size hszb (by simp; omega)).trans hX0
 have hX2 := (hG2.block w.heap.size (by have := hG1.size; exact Nat.lt_of_lt_of_le hszb this) (by simp; omega)).trans hX1
 have hm0 : wb.drew.heap[bm]? = some (.cells #[.map (some gm)] 53 (0, 0)) := by rw [hwb]; exact blk_alloc hS.met _
 have hm1 := (hG1.block bm (by exact Nat.lt_trans hbm hszb) (by simp; exact hS.n2)).trans hm0
 have hm2 := (hG2.block bm (by have := hG1.size; exact Nat.lt_of_lt_of_le (Nat.lt_trans hbm hszb) this) (by simp; exact hS.n2)).trans hm1
 have d0 : w1.cell? ⟨w.heap.size, 0, none⟩ = some (.string a0) := blk_cell hX1 0
 have d1 : w1.cell? ⟨w.heap.size, 1, none⟩ = some (.string a1) := blk_cell hX1 1
 have d2 : w1.cell? ⟨bm, 0, none⟩ = some (.map (some gm)) := blk_cell hm1 0
 have HX2 := Aside0.mk hX2
 have HMM2 := Aside0.mk hm2
 have hlk2 := hM2.lookRun (Keyed.of_law lawA) Tryd.underlying53 a hkey
 rw [show put f a (c + 1) a = some (c + 1) by rw [put, if_pos rfl], Option.getD_some] at hlk2
 unfold encA at hlk2
 rw [← ha0, ← ha1] at hlk2
 have HM2 := Aside0.mk hM2
 have HAA : Aside0 ((⟨a0, a1⟩ : At) = a) := ⟨by rw [ha0, ha1]⟩
 have HS := Aside0.mk hS
 have HG1 := Aside0.mk hG1
 have HG2 := Aside0.mk hG2
 have HWB := Aside0.mk hwb
 have HC := Aside0.mk hc
 have hB2 : Below lo w w2 := by
  have h1 : Below lo w wb := by rw [hwb]; exact (Below.refl lo w).alloc (Nat.le_trans hS.l1 (Nat.le_of_lt hbm)) _
  have h2 : Below lo w wb.drew := below_drew1 h1
  have h3 := h2.grown hG1 (by exact Nat.le_trans hS.l1 (Nat.le_of_lt (Nat.lt_trans hbm hszb))) (fun j hj => by cases hj; exact hS.l3)
  exact h3.grown hG2 (Nat.le_trans (Nat.le_trans hS.l1 (Nat.le_of_lt (Nat.lt_trans hbm hszb))) hG1.size) (fun j hj => by cases hj; exact hS.l3)
 have hsz2 : wb.heap.size ≤ w2.heap.size := Nat.le_trans hG1.size hG2.size
 have hok2 : ∀ k, k ≠ gm → k < w.heap.size → w2.heap[k]? = w.heap[k]? := fun k hk hlt => by
  rw [hG2.block k (Nat.lt_of_lt_of_le (Nat.lt_trans hlt hszb) hG1.size) (by simp; exact hk), hG1.block k (by exact Nat.lt_trans hlt hszb) (by simp; exact hk)]
  show wb.heap[k]? = _
  rw [hwb]
  exact (below_alloc (Below.refl _ _) _).block k hlt
 have HR2 : Aside0 (k33.R 33 w2 lo (fun k => k ≠ bm ∧ k ≠ bo ∧ k ≠ gm ∧ ¬ X k) v L) := ⟨Kd.R_step hR (fun k hk hlt => hok2 k hk.2.2.1 hlt)⟩
 have HO2 : Aside0 (w2.heap[bo]? = some (.cells #[v] 30 (0, 0))) := ⟨by
  rw [hG2.block bo (Nat.lt_of_lt_of_le (Nat.lt_trans hbo hszb) hG1.size) (by simp; exact hS.n3), hG1.block bo (by exact Nat.lt_trans hbo hszb) (by simp; exact hS.n3)]
  show wb.heap[bo]? = _
  rw [hwb]
  exact blk_alloc hv _⟩
 have HMK : Aside0 (k33.M w2 lo (fun _ => False) ⟨a0, a1⟩ [.string a0, .string a1]) := ⟨k33_mkM _ _ _ ⟨a0, a1⟩⟩
 have HFR : Aside0 (∀ k, w2.heap.size ≤ k → (k ≠ bm ∧ k ≠ bo ∧ k ≠ gm ∧ ¬ X k)) := ⟨fun k hk => ⟨by omega, by omega, by omega, fun hx => by have := hS.xl k hx; omega⟩⟩
 have HK2 : Aside0 (w.heap.size ≤ w2.heap.size ∧ ∀ k, X k → w2.heap[k]? = w.heap[k]?) := ⟨by omega, fun k hx => hok2 k (fun e => hS.x3 (e ▸ hx)) (hS.xl k hx)⟩
 have HB2 := Aside0.mk hB2
 have HBS : Aside0 (lo ≤ w2.heap.size) := ⟨by have := hS.l1; omega⟩
 have HLL : Aside0 ((L.length + 1) * 32 ≤ 140737488355328) := ⟨by have := hS.len; omega⟩
 have HMET : Aside0 (MetA f L N) := ⟨⟨hin, hout⟩⟩
 have HLT : Aside0 (bm < w2.heap.size ∧ bo < w2.heap.size ∧ gm < w2.heap.size) := ⟨by omega⟩
 clear hB2 hok2
 replace hes : (Instr.entryStore 53 (.map (some gm)) (.int .i64 (st : Int)) (.int .i64 (c + 1))).run Tryd.prog w1 = .ok () w2 := hes
 have w64c : IntKind.i64.wrap (c + 1) = c + 1 := i64_w _ |>.trans (by unfold wrap64; omega)
 clear hX0 hX1 hX2 hm0 hm1 hm2 hM2 hS hG1 hG2 hwb hc hst hM1 hMd hMb hM hin hout hv hR hpa ha0 ha1 hkey
 go_enter Tryd.func16, Tryd.ntmps16
 go_upto_region 1 with (fail)
 rw [← HWB.out]
 go_region
 have c2 : w2.cell? ⟨bm, 0, none⟩ = some (.map (some gm)) := blk_cell HMM2.out 0
 have x0 : w2.cell? ⟨w.heap.size, 0, none⟩ = some (.string a0) := blk_cell HX2.out 0
 have x1 : w2.cell? ⟨w.heap.size, 1, none⟩ = some (.string a1) := blk_cell HX2.out 1
 clear hlk hlk1 hen hes d0 d1 d2 b0 b1 b2
 by_cases hz : c = 0
 ·have t1 : (c + 1 == (1 : Int)) = true := by rw [hz]; rfl
  have o0 : w2.cell? ⟨bo, 0, none⟩ = some v := blk_cell HO2.out 0
  have HZ := Aside0.mk hz
  clear hz
  go_wp2_with (at_builtin; refine Kd.R_append k33 (w0 := w) lo rfl (.tmp 14) (.tmp 16) 30 33 (.agg #[.string ⟨#[]⟩, .string ⟨#[]⟩]) 32 rfl Tryd.underlying30 info_at rfl (by decide) (by decide) v L ⟨a0, a1⟩ [.string a0, .string a1] (fun k => k ≠ bm ∧ k ≠ bo ∧ k ≠ gm ∧ ¬ X k) (fun _ => False) rfl rfl HMK.out (fun _ hk => hk.elim) HFR.out HR2.out HB2.out HBS.out HLL.out ?_)
  intro v7 w7 hR7 hB7 hg7 hat7
  obtain ⟨A7, c7, e7⟩ := Kd.R_slice hR7
  obtain ⟨n7, hn7⟩ : ∃ n, n = (L ++ [(⟨a0, a1⟩ : At)]).length := ⟨_, rfl⟩
  rw [← hn7] at e7
  subst e7
  clear hn7
  have hownok := HR2.out.1
  have hbo7 : w7.heap[bo]? = some (.cells #[v] 30 (0, 0)) := (hg7.block bo HLT.out.2.1 (fun he => (hownok bo he.symm).2.1 rfl)).trans HO2.out
  have hbm7 : w7.heap[bm]? = some (.cells #[.map (some gm)] 53 (0, 0)) := (hg7.block bm HLT.out.1 (fun he => (hownok bm he.symm).1 rfl)).trans HMM2.out
  have hgm7 : w7.heap[gm]? = w2.heap[gm]? := hg7.block gm HLT.out.2.2 (fun he => (hownok gm he.symm).2.2.1 rfl)
  have o7 : w7.cell? ⟨bo, 0, none⟩ = some v := blk_cell hbo7 0
  have f7 : w7.frozen? ⟨bo, 0, none⟩ = false := by simp [World.frozen?, hbo7]
  have HF : Aside0 (AtS lo X (w7.setCell ⟨bo, 0, none⟩ (.slice A7 n7 c7)) bm bo gm (addA L a) (N + 1) ∧ Below lo w (w7.setCell ⟨bo, 0, none⟩ (.slice A7 n7 c7)) ∧ Kept w (w7.setCell ⟨bo, 0, none⟩ (.slice A7 n7 c7)) (fun k => ¬ X k)) := ⟨by
   have hne : a ∉ L := (met_zero HMET.out a).1 (by rw [← HC.out]; exact HZ.out)
   have hadd : addA L a = L ++ [a] := by rw [addA, if_neg hne]
   have hmet := met_add HMET.out a
   rw [← HC.out] at hmet
   rw [HAA.out] at hR7
   refine ⟨{ met := blk_far hbm7 (p := ⟨bo, 0, none⟩) HS.out.n1 _, out := ⟨_, blk_set hbo7 0 _, ?_⟩, map := ⟨_, _, HM2.out.same ?_, hmet.1, hmet.2⟩, n1 := HS.out.n1, n2 := HS.out.n2, n3 := HS.out.n3, l1 := HS.out.l1, l2 := HS.out.l2, l3 := HS.out.l3, len := ?_, x1 := HS.out.x1, x2 := HS.out.x2, x3 := HS.out.x3, xl := ?_ }, hB7.setCell (p := ⟨bo, 0, none⟩) HS.out.l2 _, ?_, ?_⟩
   ·rw [hadd]
    exact Kd.R_far hR7 (p := ⟨bo, 0, none⟩) (fun k hk => hk.2.1) _
   ·exact (Below.heap_setCell w7 ⟨bo, 0, none⟩ _ gm (fun e => HS.out.n3 e.symm)).trans hgm7
   ·rw [hadd, List.length_append, List.length_singleton]; have := HS.out.len; omega
   ·intro k hx
    rw [World.size_setCell]
    have := HS.out.xl k hx; have := HK2.out.1; have := hg7.size
    omega
   ·rw [World.size_setCell]
    have := HK2.out.1; have := hg7.size
    omega
   ·intro k hk hnx
    have hx := Classical.byContradiction hnx
    rw [Below.heap_setCell w7 ⟨bo, 0, none⟩ _ k (fun e => HS.out.x2 ((show k = bo from e) ▸ hx)), hg7.block k (by have := HK2.out.1; omega) (fun e => (hownok k e.symm).2.2.2 hx)]
    exact HK2.out.2 k hx⟩
  clear hR7 hB7 hg7 hat7 hownok hbo7 hbm7 hgm7
  go_wp2
  exact ⟨rfl, .tuple #[], by simp [results, Tryd.f16], rfl, HF.out⟩
 ·have t1 : (c + 1 == (1 : Int)) = false := by simp; omega
  have HF : Aside0 (AtS lo X w2 bm bo gm (addA L a) (N + 1) ∧ Below lo w w2 ∧ Kept w w2 (fun k => ¬ X k)) := ⟨by
   have hm : a ∈ L := Decidable.byContradiction (fun hn => hz (by rw [HC.out]; exact (met_zero HMET.out a).2 hn))
   have hadd : addA L a = L := by rw [addA, if_pos hm]
   have hmet := met_add HMET.out a
   rw [← HC.out] at hmet
   exact ⟨{ HS.out with met := HMM2.out, out := ⟨v, HO2.out, by rw [hadd]; exact HR2.out⟩, map := ⟨_, _, HM2.out, hmet.1, hmet.2⟩, len := by rw [hadd]; have := HS.out.len; omega, xl := fun k hx => Nat.lt_of_lt_of_le (HS.out.xl k hx) HK2.out.1 }, HB2.out, HK2.out.1, fun k hk hnx => HK2.out.2 k (Classical.byContradiction hnx)⟩⟩
  clear hz
  go_wp2
  exact ⟨rfl, .tuple #[], by simp [results, Tryd.f16], rfl, HF.out⟩
end Go.Proofs.YtdlahgamdigkhaaDoor.Sn
namespace Go.Proofs.YtdlahgamdigkhaaDoor.Sn
open Go.RowKit Go.Maps Go.Proofs.YtdlahgamdigkhaaDoor.Pr Go.Proofs.YtdlahgamdigkhaaDoorW.PrintWords Go.Proofs.YtdlahgamdigkhaaDoorW.PrintLast Go.Proofs.YtdlahgamdigkhaaDoorW.PrintMore Go.Proofs.YtdlahgamdigkhaaDoor.Mp
open Go.Proofs.YtdlahgamdigkhaaDoor.Ps hiding Tk
open Go.Proofs.YtdlahgamdigkhaaDoor.Pu (sizeC sizeL sizeC_eq sizeL_len size_mem)
theorem atF {w : World} {X : Nat → Prop} {A : Option Addr} {n : Nat} {xs : List Cd} (h : Kd.F k39 w X A n xs) (i : Int) (h0 : 0 ≤ i) (h1 : i < n) : ∃ ad A3 c3, A = some ad ∧ w.cell? (ad.add (i.toNat * 4)) = some (.int .i64 (rd_T39 xs i).f0) ∧ w.cell? ⟨(ad.add (i.toNat * 4)).block, (ad.add (i.toNat * 4)).off + 1, none⟩ = some (.string (rd_T39 xs i).f1.f0) ∧ w.cell? ⟨(ad.add (i.toNat * 4)).block, (ad.add (i.toNat * 4)).off + 2, none⟩ = some (.string (rd_T39 xs i).f1.f1) ∧ w.cell? ⟨(ad.add (i.toNat * 4)).block, (ad.add (i.toNat * 4)).off + 3, none⟩ = some (.slice A3 (rd_T39 xs i).f2.length c3) ∧ (rd_T39 xs i).f2.length ≤ c3 ∧ Kd.F k39 w X A3 (rd_T39 xs i).f2.length (rd_T39 xs i).f2 := by
 obtain ⟨ad, c, e, _, hK, hc0, _⟩ := Kd.F_get h z39 i h0 h1
 have hc : ∀ j u, c[j]? = some u → w.cell? (ad.add (i.toNat * 4 + j)) = some u := hc0
 obtain ⟨A3, c3, rfl, l3, g3⟩ := k39_openF hK
 exact ⟨ad, A3, c3, e, hc 0 _ rfl, by rw [← add_field _ _ 1 (by omega)]; exact hc 1 _ rfl, by rw [← add_field _ _ 2 (by omega)]; exact hc 2 _ rfl, by rw [← add_field _ _ 3 (by omega)]; exact hc 3 _ rfl, l3, g3⟩
def fnA (bm bo : Nat) : Value := .func (Fn.func 16) #[] #[.pointer (some ⟨bm, 0, none⟩), .pointer (some ⟨bo, 0, none⟩)]
def SzA (l : List At) : Prop := ∀ a ∈ l, a.f0.size ≤ 1000000 ∧ a.f1.size ≤ 1000000
theorem AtS.below {lo : Nat} {X : Nat → Prop} {w w' : World} {bm bo gm : Nat} {L : List At} {N : Nat} (h : AtS lo X w bm bo gm L N) (hb : Below w.heap.size w w') : AtS lo X w' bm bo gm L N := by
 obtain ⟨v, hv, hR⟩ := h.out
 obtain ⟨f, s, hM, h2⟩ := h.map
 exact { h with met := blk_below h.met hb, out := ⟨v, blk_below hv hb, Kd.R_below hR hb⟩, map := ⟨f, s, hM.below hb, h2⟩, xl := fun k hx => Nat.lt_of_lt_of_le (h.xl k hx) hb.size }
theorem AtS.more {lo : Nat} {X : Nat → Prop} {w w' : World} {bm bo gm : Nat} {L : List At} {N : Nat} (h : AtS lo X w bm bo gm L N) (hb : Below w.heap.size w w') (hlt : w.heap.size < w'.heap.size) : AtS lo (fun k => X k ∨ k = w.heap.size) w' bm bo gm L N := by
 obtain ⟨v, hv, hR⟩ := h.out
 obtain ⟨f, s, hM, h2⟩ := h.map
 have h3 := blk_lt hv
 have h4 := blk_lt h.met
 have h5 := hM.lt
 exact { h with
  met := blk_below h.met hb
  out := ⟨v, blk_below hv hb, Kd.R_below (Kd.R_mono (Kd.R_bound hR) (fun k hk => ⟨hk.1.1, hk.1.2.1, hk.1.2.2.1, fun hx => hx.elim hk.1.2.2.2 (fun e => by have := hk.2.2.1; omega)⟩)) hb⟩
  map := ⟨f, s, hM.below hb, h2⟩
  x1 := fun hx => hx.elim h.x1 (fun e => by omega)
  x2 := fun hx => hx.elim h.x2 (fun e => by omega)
  x3 := fun hx => hx.elim h.x3 (fun e => by omega)
  xl := fun k hx => hx.elim (fun hx => Nat.lt_of_lt_of_le (h.xl k hx) hb.size) (fun e => by omega) }
theorem AtS.less {lo : Nat} {X X' : Nat → Prop} {w : World} {bm bo gm : Nat} {L : List At} {N : Nat} (h : AtS lo X' w bm bo gm L N) (hx : ∀ k, X k → X' k) : AtS lo X w bm bo gm L N := by
 obtain ⟨v, hv, hR⟩ := h.out
 exact { h with out := ⟨v, hv, Kd.R_mono hR (fun k hk => ⟨hk.1, hk.2.1, hk.2.2.1, fun h2 => hk.2.2.2 (hx k h2)⟩)⟩, x1 := fun h2 => h.x1 (hx _ h2), x2 := fun h2 => h.x2 (hx _ h2), x3 := fun h2 => h.x3 (hx _ h2), xl := fun k h2 => h.xl k (hx k h2) }
theorem AtS.lo_le {lo : Nat} {X : Nat → Prop} {w : World} {bm bo gm : Nat} {L : List At} {N : Nat} (h : AtS lo X w bm bo gm L N) : lo ≤ w.heap.size := Nat.le_trans h.l1 (Nat.le_of_lt (blk_lt h.met))
def WkL (l : List Cd) : Prop := ∀ (lo : Nat) (X : Nat → Prop) (w : World) (bm bo gm : Nat) (L : List At) (N : Nat) (A : Option Addr) (n cap : Nat), AtS lo X w bm bo gm L N → n = l.length → Kd.F k39 w X A l.length l → N + sizeL l ≤ 1000000 →
 Calls Tryd.prog 15 #[fnA bm bo, .slice A n cap] w fun e w' => e = .returned (.tuple #[]) ∧ AtS lo X w' bm bo gm ((atomsL l).foldl addA L) (N + (atomsL l).length) ∧ Below lo w w' ∧ Kept w w' (fun k => ¬ X k)
theorem atoms_size : ∀ (Z : Nat), (∀ c : Cd, sizeC c ≤ Z → (atomsC c).length ≤ sizeC c) ∧ ∀ l : List Cd, sizeL l ≤ Z → (atomsL l).length ≤ sizeL l
 | 0 => ⟨fun c h => by rw [sizeC_eq] at h; omega, fun l h => by cases l with | nil => rw [atomsL]; exact Nat.zero_le _ | cons c l => rw [sizeL, sizeC_eq] at h; omega⟩
 | Z + 1 => by
  have ih := atoms_size Z
  have hc : ∀ c : Cd, sizeC c ≤ Z + 1 → (atomsC c).length ≤ sizeC c := fun c h => by
   rw [sizeC_eq] at h ⊢
   rw [atomsC_eq, List.length_append]
   have := ih.2 c.f2 (by omega)
   split <;> simp <;> omega
  refine ⟨hc, fun l h => ?_⟩
  induction l with
  | nil => rw [atomsL]; exact Nat.zero_le _
  | cons c l ihl =>
   rw [sizeL] at h ⊢
   rw [atomsL, List.length_append]
   have h1 := hc c (by omega)
   have h2 := ihl (by omega)
   omega
theorem take_atoms {l : List Cd} {i : Nat} (h : i < l.length) : atomsL (l.take (i + 1)) = atomsL (l.take i) ++ atomsC l[i] := by
 rw [List.take_add_one, List.getElem?_eq_getElem h, Option.toList_some, atomsL_app, atomsL, atomsL, List.append_nil]
theorem size_app : ∀ a b : List Cd, sizeL (a ++ b) = sizeL a + sizeL b := Go.Proofs.YtdlahgamdigkhaaDoor.Pu.sizeL_app
theorem take_size {l : List Cd} {i : Nat} (h : i < l.length) : sizeL (l.take i) + sizeC l[i] ≤ sizeL l := by
 have h1 := size_app (l.take i) (l.drop i)
 rw [List.take_append_drop, List.drop_eq_getElem_cons h, sizeL] at h1
 omega
theorem hmf (fn : Fn) (first cap : Array Value) (w : World) : (Instr.makeFunc fn first cap).run Tryd.prog w = .ok (.func fn first cap) w := rfl
set_option maxHeartbeats 16000000
set_option maxRecDepth 100000
theorem walk_round (l : List Cd) (hall : ∀ c ∈ l, WkL c.f2) (hsz : SzA (atomsL l)) : WkL l := by
 intro lo X w bm bo gm L N A n cap hS hnl hF hN
 unfold fnA
 have HAL := Aside0.mk hall
 have HF := Aside0.mk hF
 have HN := Aside0.mk hnl
 have HL : Aside0 (l.length ≤ 1000000) := ⟨by have := sizeL_len l; omega⟩
 have HNS := Aside0.mk hN
 have HSZ := Aside0.mk hsz
 have HS := Aside0.mk hS
 clear hall hF hnl hN hsz hS
 go_enter Tryd.func15, Tryd.ntmps15
 go_wp2
 go_loopg [8] l.length (fun gk v8 wr => ∃ (i : Nat), v8 = .int .i64 i ∧ Aside0 (i ≤ l.length) ∧ Aside0 (l.length - i ≤ gk) ∧ Aside0 (AtS lo X wr bm bo gm ((atomsL (l.take i)).foldl addA L) (N + (atomsL (l.take i)).length)) ∧ Aside0 (Below lo w wr) ∧ Aside0 (Kept w wr (fun k => ¬ X k)))
 case atStart => exact ⟨0, rfl, ⟨Nat.zero_le _⟩, ⟨Nat.sub_le _ _⟩, HS, ⟨Below.refl _ _⟩, ⟨Kept.refl _ _⟩⟩
 case round =>
  obtain ⟨i, rfl, HI, HGK, HR, HB, HK⟩ := hrel
  by_cases hi : i < n
  ·have l1 : decide (i < n) = true := decide_eq_true hi
   have l2 : decide ((i : Int) < (n : Int)) = true := decide_eq_true (by omega)
   have l3 : (i : Int) < (n : Int) := by omega
   have HIL : Aside0 (i < l.length) := ⟨by rw [← HN.out]; exact hi⟩
   have hib : (i : Int) ≤ 1000000 := by have := HL.out; have := HIL.out; omega
   obtain ⟨ad, A3, c3, hA, q0, q1, q2, q3, hl3, hC3⟩ := atF (Kd.F_kept HF.out HK.out (fun k hx hn => hn hx)) (i : Int) (by omega) (by have := HIL.out; omega)
   have hA2 : A = some ad := hA
   subst hA2
   obtain ⟨x, hx⟩ : ∃ x, x = rd_T39 l (i : Int) := ⟨_, rfl⟩
   have HX : Aside0 (x = l[i]'HIL.out) := ⟨by rw [hx]; have := HIL.out; simp [rd_T39, this]⟩
   rw [← hx] at q0 q1 q2 q3 hl3 hC3
   simp only [Int.toNat_natCast] at q0 q1 q2 q3
   have hbl := World.block_lt_of_cell? wr _ q0
   obtain ⟨m, hm⟩ : ∃ m, m = x.f2.length := ⟨_, rfl⟩
   rw [← hm] at q3
   obtain ⟨wb, hwb⟩ : ∃ wb, wb = (wr.alloc (.cells #[.int .i64 0, .string ⟨#[]⟩, .string ⟨#[]⟩, .slice none 0 0] 39)).setRow wr.heap.size #[.int .i64 x.f0, .string x.f1.f0, .string x.f1.f1, .slice A3 m c3] := ⟨_, rfl⟩
   have HBB : Aside0 (Below wr.heap.size wr wb) := ⟨by rw [hwb]; exact below_setRow (below_alloc (Below.refl _ _) _) (Nat.le_refl _) _⟩
   have HXX : Aside0 (wb.heap[wr.heap.size]? = some (.cells #[.int .i64 x.f0, .string x.f1.f0, .string x.f1.f1, .slice A3 m c3] 39 (0, 0))) := ⟨by rw [hwb]; exact setRow_heap _ _ _ _ _ _ (blk_new wr (.cells #[.int .i64 0, .string ⟨#[]⟩, .string ⟨#[]⟩, .slice none 0 0] 39))⟩
   have hmem : x ∈ l := by rw [HX.out]; exact List.getElem_mem _
   have HWS : wr.heap.size < wb.heap.size := blk_lt HXX.out
   have t0 : wb.cell? ⟨wr.heap.size, 0, none⟩ = some (.int .i64 x.f0) := blk_cell HXX.out 0
   have t1 : wb.cell? ⟨wr.heap.size, 1, none⟩ = some (.string x.f1.f0) := blk_cell HXX.out 1
   have t2 : wb.cell? ⟨wr.heap.size, 2, none⟩ = some (.string x.f1.f1) := blk_cell HXX.out 2
   have t3 : wb.cell? ⟨wr.heap.size, 3, none⟩ = some (.slice A3 m c3) := blk_cell HXX.out 3
   have HS1 : Aside0 (AtS lo X wb bm bo gm ((atomsL (l.take i)).foldl addA L) (N + (atomsL (l.take i)).length)) := ⟨HR.out.below HBB.out⟩
   have HS1m : Aside0 (AtS lo (fun k => X k ∨ k = wr.heap.size) wb bm bo gm ((atomsL (l.take i)).foldl addA L) (N + (atomsL (l.take i)).length)) := ⟨HR.out.more HBB.out HWS⟩
   have HF1 : Aside0 (Kd.F k39 wb X A3 x.f2.length x.f2) := ⟨Kd.F_below hC3 HBB.out⟩
   have HLO : Aside0 (lo ≤ wr.heap.size) := ⟨HR.out.lo_le⟩
   have HB1 : Aside0 (Below lo w wb) := ⟨HB.out.trans (HBB.out.mono HLO.out)⟩
   have HK1 : Aside0 (Kept w wb (fun k => ¬ X k)) := ⟨HK.out.then_ (Kept.of_below HBB.out _) (fun k hk => .inl hk)⟩
   have HWK := Aside0.mk (HAL.out x hmem)
   have HTA : Aside0 (atomsL (l.take (i + 1)) = atomsL (l.take i) ++ atomsC x) := ⟨by rw [take_atoms HIL.out, HX.out]⟩
   have HSX : Aside0 (N + (atomsL (l.take i)).length + 1 + sizeL x.f2 ≤ 1000000) := ⟨by
    have h1 := take_size HIL.out
    have h2 := (atoms_size _).2 (l.take i) (Nat.le_refl _)
    have h3 := HNS.out
    rw [← HX.out, sizeC_eq] at h1
    omega⟩
   have HAT : Aside0 (atomsC x = (if x.f0 = 3 then [x.f1] else []) ++ atomsL x.f2) := ⟨atomsC_eq x⟩
   have HSA : Aside0 (x.f0 = 3 → x.f1.f0.size ≤ 1000000 ∧ x.f1.f1.size ≤ 1000000) := ⟨fun h3 => HSZ.out x.f1 (by
    have h4 : atomsL l = atomsL (l.take i) ++ (atomsC x ++ atomsL (l.drop (i + 1))) := by
     have h5 : l = l.take i ++ x :: l.drop (i + 1) := by rw [HX.out, ← List.drop_eq_getElem_cons HIL.out, List.take_append_drop]
     conv => lhs; rw [h5]
     rw [atomsL_app, atomsL]
    rw [h4, HAT.out, if_pos h3]
    simp)⟩
   have HWB := Aside0.mk hwb
   have HM := Aside0.mk hm
   clear hwb hx hA hC3 hl3 hm hmem hi HBB HB HK HR
   obtain ⟨x0, hx0⟩ : ∃ x0, x0 = x.f0 := ⟨_, rfl⟩
   obtain ⟨x1, hx1⟩ : ∃ x1, x1 = x.f1.f0 := ⟨_, rfl⟩
   obtain ⟨x2, hx2⟩ : ∃ x2, x2 = x.f1.f1 := ⟨_, rfl⟩
   rw [← hx0, ← hx1, ← hx2] at HXX HWB
   rw [← hx0] at q0
   rw [← hx1] at q1
   rw [← hx2] at q2
   rw [← hx0] at t0 HAT HSA
   rw [← hx1] at t1 HSA
   rw [← hx2] at t2 HSA
   have HX12 : Aside0 (x.f1 = ⟨x1, x2⟩) := ⟨by rw [hx1, hx2]⟩
   clear hx0 hx1 hx2
   go_upto_region 3 with (refine wpList_store_row rfl 39 _ _ rfl wr.heap.size #[.int .i64 x0, .string x1, .string x2, .slice A3 m c3] rfl rfl 39 #[.int .i64 0, .string ⟨#[]⟩, .string ⟨#[]⟩, .slice none 0 0] (blk_new _ _) size_cd rfl (by simp [Value.oneCell']) ?_)
   rw [← HWB.out]
   clear HWB q0 q1 q2 q3 hbl
   by_cases h3 : x0 = 3
   ·have l4 : (x0 == (3 : Int)) = true := by rw [h3]; rfl
    have HAT3 : Aside0 (atomsC x = x.f1 :: atomsL x.f2) := ⟨by rw [HAT.out, if_pos h3]; rfl⟩
    have hsa := HSA.out h3
    have H5 := Aside0.mk (add_calls ⟨x1, x2⟩ hsa.1 hsa.2 lo _ wb bm bo gm _ _ HS1m.out (by have := HSX.out; omega))
    clear h3 hsa HAT HSA
    go_wp2_with fail
    refine H5.out.mono ?_
    rintro e w6 ⟨rfl, hs6, hb6, hk6'⟩
    dsimp only
    have hbx : w6.heap[wr.heap.size]? = wb.heap[wr.heap.size]? := hk6'.2 _ HWS (fun hn => hn (.inr rfl))
    have hk6 : Kept wb w6 (fun k => ¬ X k) := hk6'.mono (fun k hk hx => hk (.inl hx))
    have HB6 : Aside0 (Below lo w w6) := ⟨HB1.out.trans hb6⟩
    have HK6 : Aside0 (Kept w w6 (fun k => ¬ X k)) := ⟨HK1.out.then_ hk6 (fun k hk => .inl hk)⟩
    have HF6 : Aside0 (Kd.F k39 w6 X A3 x.f2.length x.f2) := ⟨Kd.F_kept HF1.out hk6 (fun k hx hn => hn hx)⟩
    have HS6 := Aside0.mk (hs6.less (X := X) (fun k hx => .inl hx))
    have u3 : w6.cell? ⟨wr.heap.size, 3, none⟩ = some (.slice A3 m c3) := blk_cell (hbx.trans HXX.out) 3
    have H7 := Aside0.mk (HWK.out lo X w6 bm bo gm _ _ A3 m c3 HS6.out HM.out HF6.out (by have := HSX.out; omega))
    unfold fnA at H7
    clear hs6 hb6 hk6 hk6' hbx H5 HS1m t0 t1 t2 t3
    go_wp2_with fail
    refine H7.out.mono ?_
    rintro e w7 ⟨rfl, hs7, hb7, hk7⟩
    dsimp only
    have HB7 : Aside0 (Below lo w w7) := ⟨HB6.out.trans hb7⟩
    have HK7 : Aside0 (Kept w w7 (fun k => ¬ X k)) := ⟨HK6.out.then_ hk7 (fun k hk => .inl hk)⟩
    have HS7 : Aside0 (AtS lo X w7 bm bo gm ((atomsL (l.take (i + 1))).foldl addA L) (N + (atomsL (l.take (i + 1))).length)) := ⟨by
     rw [HTA.out, HAT3.out, List.foldl_append, List.foldl_cons, HX12.out, List.length_append, List.length_cons]
     have h := hs7
     rwa [show N + (atomsL (l.take i)).length + 1 + (atomsL x.f2).length = N + ((atomsL (l.take i)).length + ((atomsL x.f2).length + 1)) by omega] at h⟩
    clear hs7 hb7 hk7 H7
    go_wp2
    go_roundg (l.length - (i + 1))
    case measure => have := HGK.out; have := HIL.out; omega
    case rel => exact ⟨i + 1, by first | rfl | go_num, ⟨HIL.out⟩, ⟨Nat.le_refl _⟩, HS7, HB7, HK7⟩
   ·have l4 : (x0 == (3 : Int)) = false := by simp [h3]
    have HAT3 : Aside0 (atomsC x = atomsL x.f2) := ⟨by rw [HAT.out, if_neg h3]; rfl⟩
    have H7 := Aside0.mk (HWK.out lo X wb bm bo gm _ _ A3 m c3 HS1.out HM.out HF1.out (by have := HSX.out; omega))
    unfold fnA at H7
    clear h3 HAT HSA HS1m
    go_wp2_with fail
    refine H7.out.mono ?_
    rintro e w7 ⟨rfl, hs7, hb7, hk7⟩
    dsimp only
    have HB7 : Aside0 (Below lo w w7) := ⟨HB1.out.trans hb7⟩
    have HK7 : Aside0 (Kept w w7 (fun k => ¬ X k)) := ⟨HK1.out.then_ hk7 (fun k hk => .inl hk)⟩
    have HS7 : Aside0 (AtS lo X w7 bm bo gm ((atomsL (l.take (i + 1))).foldl addA L) (N + (atomsL (l.take (i + 1))).length)) := ⟨by
     rw [HTA.out, HAT3.out, List.foldl_append, List.length_append]
     have h := hs7
     rwa [show N + (atomsL (l.take i)).length + (atomsL x.f2).length = N + ((atomsL (l.take i)).length + (atomsL x.f2).length) by omega] at h⟩
    clear hs7 hb7 hk7 H7
    go_wp2
    go_roundg (l.length - (i + 1))
    case measure => have := HGK.out; have := HIL.out; omega
    case rel => exact ⟨i + 1, by first | rfl | go_num, ⟨HIL.out⟩, ⟨Nat.le_refl _⟩, HS7, HB7, HK7⟩
  ·have l1 : decide (i < n) = false := decide_eq_false hi
   have l2 : decide ((i : Int) < (n : Int)) = false := decide_eq_false (by omega)
   have l3 : ¬ (i : Int) < (n : Int) := by omega
   have HR1 : Aside0 (AtS lo X wr bm bo gm ((atomsL l).foldl addA L) (N + (atomsL l).length)) := ⟨by
    have h := HR.out
    rwa [List.take_of_length_le (by have := HN.out; omega)] at h⟩
   clear hi HR
   go_wp2
   exact ⟨rfl, .tuple #[], by simp [results, Tryd.f15], rfl, HR1.out, HB.out, HK.out⟩
theorem kid_size {l : List Cd} {c : Cd} (h : c ∈ l) : sizeL c.f2 < sizeL l := by have := size_mem h; rw [sizeC_eq] at this; omega
theorem kid_atoms {l : List Cd} {c : Cd} (h : c ∈ l) : ∀ a ∈ atomsL c.f2, a ∈ atomsL l := by
 intro a ha
 induction l with
 | nil => cases h
 | cons d l ih =>
  rw [atomsL]
  rcases List.mem_cons.1 h with rfl | h
  ·rw [atomsC_eq]; exact List.mem_append_left _ (List.mem_append_right _ ha)
  ·exact List.mem_append_right _ (ih h)
theorem walk_calls : ∀ (Z : Nat) (l : List Cd), sizeL l ≤ Z → SzA (atomsL l) → WkL l
 | 0, l, h, hs => walk_round l (fun c hc => by have := kid_size hc; omega) hs
 | Z + 1, l, h, hs => walk_round l (fun c hc => walk_calls Z c.f2 (by have := kid_size hc; omega) (fun a ha => hs a (kid_atoms hc a ha))) hs
end Go.Proofs.YtdlahgamdigkhaaDoor.Sn
namespace Go.Proofs.YtdlahgamdigkhaaDoor.Ps
open Go.RowKit Go.Proofs.YtdlahgamdigkhaaDoor.Pr Go.Proofs.YtdlahgamdigkhaaDoorW.PrintWords Go.Proofs.YtdlahgamdigkhaaDoorW.PrintLast Go.Proofs.YtdlahgamdigkhaaDoorW.PrintMore
abbrev RdS (w0 W : World) (g : Nat) (T : List (S69)) (i e c a : Int) : Prop := IsS66 w0 W g T i e c a
def rtok (T : List (S69)) (i : Int) : S69 := rd_T69 T i
theorem bad_quiet (w0 w : World) (g : Nat) (T : List (S69)) (i e c a : Int) (b : Bool) (hb : (c != 0) = b) (h : RdS w0 w g T i e c a) :
  Calls Tryd.prog 24 #[.pointer (some ⟨g, 0, none⟩)] w fun e' w' => e' = .returned (.bool b) ∧ w' = w := by
 subst hb
 obtain ⟨A0, c0, hb, hg, hC⟩ := h
 have t3 := cellS66_3 hb
 clear hC
 go_enter Tryd.func24, Tryd.ntmps24
 go_wp2
 go_ret
 exact ⟨rfl, rfl⟩
theorem keepN {w : World} (n : Nat) (g : Nat) : KeepBut w (w.drewN n) g none := keep_drewN (KeepBut.refl w g none) n
set_option maxHeartbeats 8000000 in
set_option maxRecDepth 100000 in
theorem is_walk (w0 w : World) (g : Nat) (T : List (S69)) (i e c a : Int) (s : ByteArray) (h : RdS w0 w g T i e c a) (hB : Below w0.heap.size w0 w) (hi : 0 ≤ i) :
  Calls Tryd.prog 43 #[.pointer (some ⟨g, 0, none⟩), .string s] w fun e' w' => e' = .returned (.bool (c == 0 && (decide (i < T.length) && ((rtok T i).f0 == 1 && (rtok T i).f2.toList == s.toList)))) ∧ ∃ n, w' = w.drewN n := by
 have H := Aside0.mk h
 have HB := Aside0.mk hB
 clear hB
 obtain ⟨A0, c0, hb, hg, hC⟩ := h
 have t1 := cellS66_1 hb
 have t0 := cellS66_0 hb
 have t3 := cellS66_3 hb
 obtain ⟨j, rfl⟩ : ∃ j : Nat, i = (j : Int) := ⟨i.toNat, by omega⟩
 have HC := Aside0.mk hC
 have HBB := Aside0.mk hb
 obtain ⟨n, hn⟩ : ∃ n, n = T.length := ⟨_, rfl⟩
 rw [← hn] at t0 ⊢
 have HN := Aside0.mk hn
 clear hb hg hC hn hi
 by_cases hc : c = 0
 ·have l0 : (c != (0 : Int)) = false := by simp [hc]
  have m0 : (c == (0 : Int)) = true := by simp [hc]
  rw [m0, Bool.true_and]
  by_cases hlt : j < n
  ·have l1 : decide (j < n) = true := decide_eq_true hlt
   have l2 : decide ((j : Int) < (n : Int)) = true := decide_eq_true (by omega)
   rw [l2, Bool.true_and]
   obtain ⟨ad, hA1, q0, q1, q2⟩ := at_T69 HC.out (j : Int) (by omega) (by rw [← HN.out]; omega)
   have hA2 : A0 = some ad := hA1
   subst hA2
   obtain ⟨k, hk⟩ : ∃ k, k = rtok T j := ⟨_, rfl⟩
   change _ = some (Value.int .i64 (rtok T j).f0) at q0
   change _ = some (Value.int .i64 (rtok T j).f1) at q1
   change _ = some (Value.string (rtok T j).f2) at q2
   rw [← hk] at q0 q1 q2 ⊢
   simp only [Int.toNat_natCast] at q0 q1 q2
   replace q0 := (HB.out.cell (World.block_lt_of_cell? w0 _ q0)).trans q0
   replace q2 := (HB.out.cell (World.block_lt_of_cell? w0 _ q2)).trans q2
   have hbl := World.block_lt_of_cell? w _ q0
   obtain ⟨k0, k1, k2⟩ := k
   dsimp only at q0 q2 ⊢
   have hlt2 : (j : Int) < (n : Int) := by omega
   clear q1 hA1 hk hlt hc m0
   by_cases hk0 : k0 = 1
   ·have l3 : (k0 == (1 : Int)) = true := by simp [hk0]
    rw [l3, Bool.true_and]
    clear hk0
    exact sAt6_4
   ·have l3 : (k0 == (1 : Int)) = false := by simp [hk0]
    rw [l3, Bool.false_and]
    clear hk0
    exact sAt6_4
  ·have l1 : decide (j < n) = false := decide_eq_false hlt
   have l2 : decide ((j : Int) < (n : Int)) = false := decide_eq_false (by omega)
   rw [l2, Bool.false_and]
   clear hlt hc m0
   exact sAt6_4
 ·have l0 : (c != (0 : Int)) = true := by simp [hc]
  have m0 : (c == (0 : Int)) = false := by simp [hc]
  rw [m0, Bool.false_and]
  clear hc m0
  exact sAt6_4
set_option maxHeartbeats 8000000 in
set_option maxRecDepth 100000 in
theorem kind_walk (w0 w : World) (g : Nat) (T : List (S69)) (i e c a : Int) (h : RdS w0 w g T i e c a) (hB : Below w0.heap.size w0 w) (hi : 0 ≤ i) :
  Calls Tryd.prog 25 #[.pointer (some ⟨g, 0, none⟩)] w fun e' w' => e' = .returned (.int .i64 (if c = 0 ∧ i < T.length then (rtok T i).f0 else 0)) ∧ ∃ n, w' = w.drewN n := by
 have H := Aside0.mk h
 have HB := Aside0.mk hB
 clear hB
 obtain ⟨A0, c0, hb, hg, hC⟩ := h
 have t1 := cellS66_1 hb
 have t0 := cellS66_0 hb
 have t3 := cellS66_3 hb
 obtain ⟨j, rfl⟩ : ∃ j : Nat, i = (j : Int) := ⟨i.toNat, by omega⟩
 have HC := Aside0.mk hC
 have HBB := Aside0.mk hb
 obtain ⟨n, hn⟩ : ∃ n, n = T.length := ⟨_, rfl⟩
 rw [← hn] at t0 ⊢
 have HN := Aside0.mk hn
 clear hb hg hC hn hi
 by_cases hc : c = 0
 ·have l0 : (c != (0 : Int)) = false := by simp [hc]
  by_cases hlt : j < n
  ·have l1 : decide (n ≤ j) = false := decide_eq_false (by omega)
   have l2 : decide ((n : Int) ≤ (j : Int)) = false := decide_eq_false (by omega)
   have l3 : ¬ (n : Int) ≤ (j : Int) := by omega
   rw [if_pos ⟨hc, by omega⟩]
   obtain ⟨ad, hA1, q0, q1, q2⟩ := at_T69 HC.out (j : Int) (by omega) (by rw [← HN.out]; omega)
   have hA2 : A0 = some ad := hA1
   subst hA2
   obtain ⟨k, hk⟩ : ∃ k, k = rtok T j := ⟨_, rfl⟩
   change _ = some (Value.int .i64 (rtok T j).f0) at q0
   rw [← hk] at q0 ⊢
   simp only [Int.toNat_natCast] at q0
   replace q0 := (HB.out.cell (World.block_lt_of_cell? w0 _ q0)).trans q0
   have hbl := World.block_lt_of_cell? w _ q0
   obtain ⟨k0, k1, k2⟩ := k
   dsimp only at q0 ⊢
   have hlt2 : (j : Int) < (n : Int) := by omega
   clear q1 q2 hA1 hk hc
   go_enter Tryd.func25, Tryd.ntmps25
   go_wp2
   go_quiet ((go_at_call 24; exact Calls.quiet_of_same (bad_quiet w0 _ g T _ e c a _ l0 (IsS66.drewN H.out _))))
   go_wp2
   go_quiet (fail)
   go_wp2
   go_ret
   exact ⟨rfl, _, World.drewN_drewN _ _ _⟩
  ·have l1 : decide (n ≤ j) = true := decide_eq_true (by omega)
   have l2 : decide ((n : Int) ≤ (j : Int)) = true := decide_eq_true (by omega)
   have l3 : (n : Int) ≤ (j : Int) := by omega
   rw [if_neg (by omega)]
   clear hlt hc
   go_enter Tryd.func25, Tryd.ntmps25
   go_wp2
   go_quiet ((go_at_call 24; exact Calls.quiet_of_same (bad_quiet w0 _ g T _ e c a _ l0 (IsS66.drewN H.out _))))
   go_wp2
   go_ret
   exact ⟨rfl, _, rfl⟩
 ·have l0 : (c != (0 : Int)) = true := by simp [hc]
  rw [if_neg (fun h => hc h.1)]
  clear hc
  go_enter Tryd.func25, Tryd.ntmps25
  go_wp2
  go_quiet ((go_at_call 24; exact Calls.quiet_of_same (bad_quiet w0 _ g T _ e c a _ l0 (IsS66.drewN H.out _))))
  go_wp2
  go_ret
  exact ⟨rfl, _, rfl⟩
def atR (T : List (S69)) (i e : Int) : Int := if i < T.length then (rtok T i).f1 else e
theorem wrong_f (T : List (S69)) (i e c a k : Int) (hi : 0 ≤ i) : parapetref19_Reader_wrong.f T i e c a k = some (i, e, if c = 0 then k else c, if c = 0 then atR T i e else a) := by
 by_cases hc : c = 0
 ·subst hc
  rw [parapetref19_Reader_wrong.f, parapetref19_Reader_bad.f, Option.bind_some, if_neg (by simp), parapetref19_Reader_at.f, atR, if_pos rfl, if_pos rfl]
  by_cases hl : i < (T.length : Int)
  ·rw [if_pos hl, if_pos hl, if_pos hi]; rfl
  ·rw [if_neg hl, if_neg hl]; rfl
 ·rw [parapetref19_Reader_wrong.f, parapetref19_Reader_bad.f, Option.bind_some, if_pos (by simp [hc]), if_neg hc, if_neg hc]
def nextR (T : List (S69)) (i e c a k : Int) : ByteArray × Int × Int × Int × Int :=
 if c = 0 ∧ i < T.length ∧ (rtok T i).f0 = k then ((rtok T i).f2, i + 1, e, c, a) else (⟨#[]⟩, i, e, if c = 0 then 8 else c, if c = 0 then atR T i e else a)
set_option maxHeartbeats 8000000 in
set_option maxRecDepth 100000 in
theorem next_walk (w0 w : World) (g : Nat) (T : List (S69)) (i e c a kd : Int) (h : RdS w0 w g T i e c a) (hB : Below w0.heap.size w0 w) (hi : 0 ≤ i) (hT : T.length ≤ 1000000) (r1 : ByteArray) (r2 r3 r4 r5 : Int) (hr : nextR T i e c a kd = (r1, r2, r3, r4, r5)) :
  Calls Tryd.prog 28 #[.pointer (some ⟨g, 0, none⟩), .int .i64 kd] w fun e' w' => e' = .returned (.string r1) ∧ RdS w0 w' g T r2 r3 r4 r5 ∧ Below w0.heap.size w0 w' ∧ KeepBut w w' g none := by
 have H := Aside0.mk h
 have HB := Aside0.mk hB
 have HT := Aside0.mk hT
 have HW := Aside0.mk (wrong_f T i e c a 8 hi)
 clear hB hT
 obtain ⟨A0, c0, hb, hg, hC⟩ := h
 have t1 := cellS66_1 hb
 have t0 := cellS66_0 hb
 have t3 := cellS66_3 hb
 obtain ⟨j, rfl⟩ : ∃ j : Nat, i = (j : Int) := ⟨i.toNat, by omega⟩
 have HC := Aside0.mk hC
 have HBB := Aside0.mk hb
 obtain ⟨n, hn⟩ : ∃ n, n = T.length := ⟨_, rfl⟩
 rw [← hn] at t0
 have HN := Aside0.mk hn
 clear hb hg hC hn hi
 by_cases hc : c = 0
 ·have l0 : (c != (0 : Int)) = false := by simp [hc]
  by_cases hlt : j < n
  ·have l1 : decide (n ≤ j) = false := decide_eq_false (by omega)
   have l2 : decide ((n : Int) ≤ (j : Int)) = false := decide_eq_false (by omega)
   have l3 : ¬ (n : Int) ≤ (j : Int) := by omega
   obtain ⟨ad, hA1, q0, q1, q2⟩ := at_T69 HC.out (j : Int) (by omega) (by rw [← HN.out]; omega)
   have hA2 : A0 = some ad := hA1
   subst hA2
   obtain ⟨k, hk⟩ : ∃ k, k = rtok T j := ⟨_, rfl⟩
   change _ = some (Value.int .i64 (rtok T j).f0) at q0
   change _ = some (Value.string (rtok T j).f2) at q2
   rw [← hk] at q0 q2
   simp only [Int.toNat_natCast] at q0 q2
   have hg0 : ad.block ≠ g := by have h1 := World.block_lt_of_cell? w0 _ q0; rw [add_block] at h1; have h2 := IsS66.ge H.out; omega
   replace q0 := (HB.out.cell (World.block_lt_of_cell? w0 _ q0)).trans q0
   replace q2 := (HB.out.cell (World.block_lt_of_cell? w0 _ q2)).trans q2
   have hbl := World.block_lt_of_cell? w _ q0
   obtain ⟨k0, k1, k2⟩ := k
   dsimp only at q0 q2
   have hlt2 : (j : Int) < (n : Int) := by omega
   clear q1 hA1
   by_cases hk0 : k0 = kd
   ·have l4 : (k0 != kd) = false := by simp [hk0]
    rw [nextR, if_pos ⟨hc, by rw [← HN.out]; exact hlt2, by rw [← hk]; exact hk0⟩, ← hk] at hr
    simp only [Prod.mk.injEq] at hr
    obtain ⟨rfl, rfl, rfl, rfl, rfl⟩ := hr
    have hjb : (j : Int) ≤ 1000000 := by have := HT.out; have := HN.out; omega
    have HG0 := Aside0.mk hg0
    have f1 := blk_frozen HBB.out 1
    clear hk hc hk0 hg0 hlt
    go_enter Tryd.func28, Tryd.ntmps28
    go_wp2
    go_quiet ((go_at_call 24; exact Calls.quiet_of_same (bad_quiet w0 _ g T _ e c a _ l0 (IsS66.drewN H.out _))))
    go_upto_region 5 with (fail)
    obtain ⟨w2, hw2⟩ : ∃ w2, w2 = (w.drewN nq).setCell ⟨g, 1, none⟩ (.int .i64 ((j : Int) + 1)) := ⟨_, rfl⟩
    rw [← hw2]
    have HS2 : Aside0 (RdS w0 w2 g T ((j : Int) + 1) e c a) := ⟨by rw [hw2]; exact IsS66.set_1 (IsS66.drewN H.out nq) _⟩
    have HB2 : Aside0 (Below w0.heap.size w0 w2) := ⟨by rw [hw2]; exact (pw_below_drewN HB.out nq).setCell (p := ⟨g, 1, none⟩) (IsS66.ge H.out) _⟩
    have HK2 : Aside0 (KeepBut w w2 g none) := ⟨by rw [hw2]; exact KeepBut.set_ (keepN nq g) 1 _⟩
    have hb2 : w2.heap[g]? = some (.cells #[.slice (some ad) T.length c0, .int .i64 ((j : Int) + 1), .int .i64 e, .int .i64 c, .int .i64 a] 66 (0, 0)) := by rw [hw2]; simpa using blk_set (show (w.drewN nq).heap[g]? = _ from HBB.out) 1 (.int .i64 ((j : Int) + 1))
    rw [← HN.out] at hb2
    have hq2 : w2.cell? (ad.add (j * 3)) = w.cell? (ad.add (j * 3)) := by rw [hw2]; exact cell_far (p := ⟨g, 1, none⟩) (by rw [add_block]; exact HG0.out) _
    have hx2 : w2.cell? ⟨(ad.add (j * 3)).block, (ad.add (j * 3)).off + 2, none⟩ = some (.string k2) := by rw [hw2]; exact (cell_far (W := w.drewN nq) (a := ⟨(ad.add (j * 3)).block, (ad.add (j * 3)).off + 2, none⟩) (p := ⟨g, 1, none⟩) (show (ad.add (j * 3)).block ≠ g by rw [add_block]; exact HG0.out) _).trans q2
    clear t0 t1 t3 q0 q2 hw2 hq2 hbl f1
    have t0 : w2.cell? ⟨g, 0, none⟩ = some (.slice (some ad) n c0) := blk_cell hb2 0
    have t1 : w2.cell? ⟨g, 1, none⟩ = some (.int .i64 ((j : Int) + 1)) := blk_cell hb2 1
    clear hb2
    go_quiet (fail)
    go_wp2
    go_ret
    exact ⟨rfl, HS2.out, pw_below_drewN HB2.out _, (HK2.out.trans (keepN _ g) (.inl rfl))⟩
   ·have l4 : (k0 != kd) = true := by simp [hk0]
    rw [nextR, if_neg (by rw [← hk]; exact fun h => hk0 h.2.2)] at hr
    have HW2 := Aside0.mk (HW.out.trans (congrArg some (congrArg Prod.snd hr)))
    obtain rfl : (⟨#[]⟩ : ByteArray) = r1 := congrArg Prod.fst hr
    clear hr
    clear hk hc hk0 q2 hg0 hlt
    exact sAt6_1
  ·have l1 : decide (n ≤ j) = true := decide_eq_true (by omega)
   have l2 : decide ((n : Int) ≤ (j : Int)) = true := decide_eq_true (by omega)
   have l3 : (n : Int) ≤ (j : Int) := by omega
   rw [nextR, if_neg (fun h => by have := h.2.1; rw [← HN.out] at this; omega)] at hr
   have HW2 := Aside0.mk (HW.out.trans (congrArg some (congrArg Prod.snd hr)))
   obtain rfl : (⟨#[]⟩ : ByteArray) = r1 := congrArg Prod.fst hr
   clear hr
   clear hlt hc
   exact sAt6_1
 ·have l0 : (c != (0 : Int)) = true := by simp [hc]
  rw [nextR, if_neg (fun h => hc h.1)] at hr
  have HW2 := Aside0.mk (HW.out.trans (congrArg some (congrArg Prod.snd hr)))
  obtain rfl : (⟨#[]⟩ : ByteArray) = r1 := congrArg Prod.fst hr
  clear hr
  clear hc
  exact sAt6_1
end Go.Proofs.YtdlahgamdigkhaaDoor.Ps
namespace Go.Proofs.YtdlahgamdigkhaaDoor.Pr
open Go.RowKit Go.Proofs.YtdlahgamdigkhaaDoorW.PrintWords Go.Proofs.YtdlahgamdigkhaaDoorW.PrintLast Go.Proofs.YtdlahgamdigkhaaDoorW.PrintMore
attribute [local go_sem] max2_int min2_int max_two min_two max_three min_three max_four min_four
def parapetref19_Reader_is.f (s0_0 : List (S69)) (s0_1 : Int) (s0_2 : Int) (s0_3 : Int) (s0_4 : Int) (a1 : ByteArray) : Option (Bool × Int × Int × Int × Int) :=
 if 0 ≤ s0_1 then some ((s0_3 == 0 && (decide (s0_1 < s0_0.length) && ((Go.Proofs.YtdlahgamdigkhaaDoor.Ps.rtok s0_0 s0_1).f0 == 1 && (Go.Proofs.YtdlahgamdigkhaaDoor.Ps.rtok s0_0 s0_1).f2.toList == a1.toList))), s0_1, s0_2, s0_3, s0_4) else none
theorem parapetref19_Reader_is.calls (g : Nat) (s0_0 : List (S69)) (s0_1 : Int) (s0_2 : Int) (s0_3 : Int) (s0_4 : Int) (a1 : ByteArray) (r1 : Bool) (r2 : Int) (r3 : Int) (r4 : Int) (r5 : Int) (w0 w : World) (hI : IsS66 w0 w g s0_0 s0_1 s0_2 s0_3 s0_4) (hB : Below w0.heap.size w0 w) (h : parapetref19_Reader_is.f s0_0 s0_1 s0_2 s0_3 s0_4 a1 = some (r1, r2, r3, r4, r5)) :
  Calls Tryd.prog 43 #[.pointer (some ⟨g, 0, none⟩), .string a1] w fun e w' => e = .returned (.bool r1) ∧ IsS66 w0 w' g s0_0 r2 r3 r4 r5 ∧ Below w0.heap.size w0 w' ∧ KeepBut w w' g none := by
 unfold parapetref19_Reader_is.f at h
 by_cases hi : 0 ≤ s0_1
 ·rw [if_pos hi] at h
  simp only [Option.some.injEq, Prod.mk.injEq] at h
  obtain ⟨rfl, rfl, rfl, rfl, rfl⟩ := h
  refine (Go.Proofs.YtdlahgamdigkhaaDoor.Ps.is_walk w0 w g s0_0 s0_1 s0_2 s0_3 s0_4 a1 hI hB hi).mono ?_
  rintro e w' ⟨rfl, n, rfl⟩
  exact ⟨rfl, IsS66.drewN hI n, pw_below_drewN hB n, keep_drewN (KeepBut.refl w g none) n⟩
 ·rw [if_neg hi] at h; cases h
end Go.Proofs.YtdlahgamdigkhaaDoor.Pr
namespace Go.Proofs.YtdlahgamdigkhaaDoor.Pr
open Go.RowKit Go.Proofs.YtdlahgamdigkhaaDoorW.PrintWords Go.Proofs.YtdlahgamdigkhaaDoorW.PrintLast Go.Proofs.YtdlahgamdigkhaaDoorW.PrintMore
attribute [local go_sem] max2_int min2_int max_two min_two max_three min_three max_four min_four
def parapetref19_Reader_take.f (s0_0 : List (S69)) (s0_1 : Int) (s0_2 : Int) (s0_3 : Int) (s0_4 : Int) (a1 : ByteArray) : Option (Bool × Int × Int × Int × Int) := (parapetref19_Reader_is.f s0_0 s0_1 s0_2 s0_3 s0_4 a1).bind fun bt268 => (if bt268.1 = true then (some (true, wrap64 (bt268.2.1 + 1), bt268.2.2.1, bt268.2.2.2.1, bt268.2.2.2.2)) else (some (false, bt268.2.1, bt268.2.2.1, bt268.2.2.2.1, bt268.2.2.2.2)))
set_option maxHeartbeats 8000000 in
set_option maxRecDepth 100000 in
theorem parapetref19_Reader_take.calls (g : Nat) (s0_0 : List (S69)) (s0_1 : Int) (s0_2 : Int) (s0_3 : Int) (s0_4 : Int) (a1 : ByteArray) (r1 : Bool) (r2 : Int) (r3 : Int) (r4 : Int) (r5 : Int) (w0 w : World) (hI : IsS66 w0 w g s0_0 s0_1 s0_2 s0_3 s0_4) (hB : Below w0.heap.size w0 w) (h : parapetref19_Reader_take.f s0_0 s0_1 s0_2 s0_3 s0_4 a1 = some (r1, r2, r3, r4, r5)) :
  Calls Tryd.prog 30 #[.pointer (some ⟨g, 0, none⟩), .string a1] w fun e w' => e = .returned (.bool r1) ∧ IsS66 w0 w' g s0_0 r2 r3 r4 r5 ∧ Below w0.heap.size w0 w' ∧ KeepBut w w' g none := by
 have HI0 := Aside0.mk hI
 have HK := Aside0.mk (KeepBut.refl w g none)
 have HL := Aside0.mk hB.size
 clear hI
 have HW0 := Aside0.mk hB.size
 have HB := Aside0.mk hB
 clear hB
 have H : ((parapetref19_Reader_is.f s0_0 s0_1 s0_2 s0_3 s0_4 a1).bind fun bt268 => (if bt268.1 = true then (some (true, wrap64 (bt268.2.1 + 1), bt268.2.2.1, bt268.2.2.2.1, bt268.2.2.2.2)) else (some (false, bt268.2.1, bt268.2.2.1, bt268.2.2.2.1, bt268.2.2.2.2)))) = some (r1, r2, r3, r4, r5) := h
 clear h
 replace H := Option.bind_eq_some_iff.mp H
 obtain ⟨⟨t268, t269, t270, t271, t272⟩, A30, H⟩ := H
 replace H : (if t268 = true then (some (true, wrap64 (t269 + 1), t270, t271, t272)) else (some (false, t269, t270, t271, t272))) = some (r1, r2, r3, r4, r5) := H
 have A3 := Aside0.mk A30
 clear A30
 by_cases c4 : t268 = true
 ·subst c4
  have H1 : (some (true, wrap64 (t269 + 1), t270, t271, t272)) = some (r1, r2, r3, r4, r5) := by rw [if_pos rfl] at H; exact H
  clear H
  have H := H1
  clear H1
  simp only [Option.some.injEq, Prod.mk.injEq] at H
  obtain ⟨rfl, rfl, rfl, rfl, rfl⟩ := H
  go_enter Tryd.func30, Tryd.ntmps30
  go_wp2_with (first | ((with_reducible refine gate_callee (f := 43) rfl ?_); refine goesL_ (some 7) rfl rfl Tryd.func43 (by kernel_rfl) rfl #[.pointer (some ⟨g, 0, none⟩), .string a1] rfl (by (try simp only [List.map_toArray, List.map_cons, List.map_nil]); first | done | rfl | (simp only [List.length_drop, List.length_take]; rfl)) ?_; (with_reducible refine (parapetref19_Reader_is.calls g s0_0 s0_1 s0_2 s0_3 s0_4 a1 true t269 t270 t271 t272 w0 _ ?side1 ?side2 A3.out).mono ?_); (case side1 => repeat (first | (with_reducible first | exact HI0.out | apply IsS66.alloc | apply IsS66.drewN | apply IsS66.drew | apply IsS66.set_1 | apply IsS66.set_2 | apply IsS66.set_3 | apply IsS66.set_4) | exact HI0.out)); (case side2 => repeat (first | (with_reducible first | exact HB.out | apply below_alloc | apply pw_below_drewN | apply below_drew1 | refine below_set ?_ (IsS66.ge HI0.out)) | exact HB.out)); rintro e w5 ⟨rfl, hi, hb, hk⟩; refine ⟨_, rfl, ?_⟩; have n0_ := Aside0.mk (KeepBut.trans (by repeat (first | (with_reducible first | exact HK.out | apply KeepBut.set_ | apply keep_drewN | apply keep_drew | apply keep_alloc) | exact HK.out)) hk (.inl rfl)); have n1_ := Aside0.mk (hb); have n2_ := Aside0.mk (hi); clear HK; clear HB; clear HI0; have HK := n0_; have HB := n1_; have HI0 := n2_; clear n0_ n1_ n2_; (try clear hb); (try clear hb2); (try clear hk); (try clear hi); obtain ⟨ASz6_0, cSz6_0, HGz6, hgz6, HSz6_0⟩ := HI0.out; have hcz6_0 := cellS66_0 HGz6; have hcz6_1 := cellS66_1 HGz6; have hcz6_2 := cellS66_2 HGz6; have hcz6_3 := cellS66_3 HGz6; have hcz6_4 := cellS66_4 HGz6; have hfz6_1 := blk_frozen HGz6 1; have hfz6_2 := blk_frozen HGz6 2; have hfz6_3 := blk_frozen HGz6 3; have hfz6_4 := blk_frozen HGz6 4; clear HGz6 hgz6))
  go_ret
  exact sAt6_3
 ·replace c4 := Bool.eq_false_iff.mpr c4
  subst c4
  have H1 : (some (false, t269, t270, t271, t272)) = some (r1, r2, r3, r4, r5) := by rw [if_neg (show ¬ (false = true) by decide)] at H; exact H
  clear H
  have H := H1
  clear H1
  simp only [Option.some.injEq, Prod.mk.injEq] at H
  obtain ⟨rfl, rfl, rfl, rfl, rfl⟩ := H
  go_enter Tryd.func30, Tryd.ntmps30
  go_wp2_with (first | ((with_reducible refine gate_callee (f := 43) rfl ?_); refine goesL_ (some 7) rfl rfl Tryd.func43 (by kernel_rfl) rfl #[.pointer (some ⟨g, 0, none⟩), .string a1] rfl (by (try simp only [List.map_toArray, List.map_cons, List.map_nil]); first | done | rfl | (simp only [List.length_drop, List.length_take]; rfl)) ?_; (with_reducible refine (parapetref19_Reader_is.calls g s0_0 s0_1 s0_2 s0_3 s0_4 a1 false t269 t270 t271 t272 w0 _ ?side1 ?side2 A3.out).mono ?_); (case side1 => repeat (first | (with_reducible first | exact HI0.out | apply IsS66.alloc | apply IsS66.drewN | apply IsS66.drew | apply IsS66.set_1 | apply IsS66.set_2 | apply IsS66.set_3 | apply IsS66.set_4) | exact HI0.out)); (case side2 => repeat (first | (with_reducible first | exact HB.out | apply below_alloc | apply pw_below_drewN | apply below_drew1 | refine below_set ?_ (IsS66.ge HI0.out)) | exact HB.out)); rintro e w7 ⟨rfl, hi, hb, hk⟩; refine ⟨_, rfl, ?_⟩; have n0_ := Aside0.mk (KeepBut.trans (by repeat (first | (with_reducible first | exact HK.out | apply KeepBut.set_ | apply keep_drewN | apply keep_drew | apply keep_alloc) | exact HK.out)) hk (.inl rfl)); have n1_ := Aside0.mk (hb); have n2_ := Aside0.mk (hi); clear HK; clear HB; clear HI0; have HK := n0_; have HB := n1_; have HI0 := n2_; clear n0_ n1_ n2_; (try clear hb); (try clear hb2); (try clear hk); (try clear hi)))
  go_ret
  exact sAt6_3
end Go.Proofs.YtdlahgamdigkhaaDoor.Pr
namespace Go.Proofs.YtdlahgamdigkhaaDoor.Pr
open Go.RowKit Go.Proofs.YtdlahgamdigkhaaDoorW.PrintWords Go.Proofs.YtdlahgamdigkhaaDoorW.PrintLast Go.Proofs.YtdlahgamdigkhaaDoorW.PrintMore
attribute [local go_sem] max2_int min2_int max_two min_two max_three min_three max_four min_four
def parapetref19_Reader_kind.f (s0_0 : List (S69)) (s0_1 : Int) (s0_2 : Int) (s0_3 : Int) (s0_4 : Int) : Option (Int × Int × Int × Int × Int) :=
 if 0 ≤ s0_1 then some ((if s0_3 = 0 ∧ s0_1 < s0_0.length then (Go.Proofs.YtdlahgamdigkhaaDoor.Ps.rtok s0_0 s0_1).f0 else 0), s0_1, s0_2, s0_3, s0_4) else none
theorem parapetref19_Reader_kind.calls (g : Nat) (s0_0 : List (S69)) (s0_1 : Int) (s0_2 : Int) (s0_3 : Int) (s0_4 : Int) (r1 : Int) (r2 : Int) (r3 : Int) (r4 : Int) (r5 : Int) (w0 w : World) (hI : IsS66 w0 w g s0_0 s0_1 s0_2 s0_3 s0_4) (hB : Below w0.heap.size w0 w) (h : parapetref19_Reader_kind.f s0_0 s0_1 s0_2 s0_3 s0_4 = some (r1, r2, r3, r4, r5)) :
  Calls Tryd.prog 25 #[.pointer (some ⟨g, 0, none⟩)] w fun e w' => e = .returned (.int .i64 r1) ∧ IsS66 w0 w' g s0_0 r2 r3 r4 r5 ∧ Below w0.heap.size w0 w' ∧ KeepBut w w' g none := by
 unfold parapetref19_Reader_kind.f at h
 by_cases hi : 0 ≤ s0_1
 ·rw [if_pos hi] at h
  have h := Option.some.inj h
  obtain rfl := congrArg Prod.fst h
  have h2 := congrArg Prod.snd h
  simp only [Prod.mk.injEq] at h2
  obtain ⟨rfl, rfl, rfl, rfl⟩ := h2
  refine (Go.Proofs.YtdlahgamdigkhaaDoor.Ps.kind_walk w0 w g s0_0 s0_1 s0_2 s0_3 s0_4 hI hB hi).mono ?_
  rintro e w' ⟨rfl, n, rfl⟩
  exact ⟨rfl, IsS66.drewN hI n, pw_below_drewN hB n, keep_drewN (KeepBut.refl w g none) n⟩
 ·rw [if_neg hi] at h; cases h
end Go.Proofs.YtdlahgamdigkhaaDoor.Pr
namespace Go.Proofs.YtdlahgamdigkhaaDoor.Pr
open Go.RowKit Go.Proofs.YtdlahgamdigkhaaDoorW.PrintWords Go.Proofs.YtdlahgamdigkhaaDoorW.PrintLast Go.Proofs.YtdlahgamdigkhaaDoorW.PrintMore
attribute [local go_sem] max2_int min2_int max_two min_two max_three min_three max_four min_four
def parapetref19_Reader_next.f (s0_0 : List (S69)) (s0_1 : Int) (s0_2 : Int) (s0_3 : Int) (s0_4 : Int) (a1 : Int) : Option (ByteArray × Int × Int × Int × Int) :=
 if 0 ≤ s0_1 ∧ s0_0.length ≤ 1000000 then some (Go.Proofs.YtdlahgamdigkhaaDoor.Ps.nextR s0_0 s0_1 s0_2 s0_3 s0_4 a1) else none
theorem parapetref19_Reader_next.calls (g : Nat) (s0_0 : List (S69)) (s0_1 : Int) (s0_2 : Int) (s0_3 : Int) (s0_4 : Int) (a1 : Int) (r1 : ByteArray) (r2 : Int) (r3 : Int) (r4 : Int) (r5 : Int) (w0 w : World) (hI : IsS66 w0 w g s0_0 s0_1 s0_2 s0_3 s0_4) (hB : Below w0.heap.size w0 w) (h : parapetref19_Reader_next.f s0_0 s0_1 s0_2 s0_3 s0_4 a1 = some (r1, r2, r3, r4, r5)) :
  Calls Tryd.prog 28 #[.pointer (some ⟨g, 0, none⟩), .int .i64 a1] w fun e w' => e = .returned (.string r1) ∧ IsS66 w0 w' g s0_0 r2 r3 r4 r5 ∧ Below w0.heap.size w0 w' ∧ KeepBut w w' g none := by
 unfold parapetref19_Reader_next.f at h
 by_cases hi : 0 ≤ s0_1 ∧ s0_0.length ≤ 1000000
 ·rw [if_pos hi] at h
  exact Go.Proofs.YtdlahgamdigkhaaDoor.Ps.next_walk w0 w g s0_0 s0_1 s0_2 s0_3 s0_4 a1 hI hB hi.1 hi.2 r1 r2 r3 r4 r5 (Option.some.inj h)
 ·rw [if_neg hi] at h; cases h
end Go.Proofs.YtdlahgamdigkhaaDoor.Pr
namespace Go.Proofs.YtdlahgamdigkhaaDoor.Pu
open Go.RowKit Go.Proofs.YtdlahgamdigkhaaDoor.Pr Go.Proofs.YtdlahgamdigkhaaDoorW.PrintWords Go.Proofs.YtdlahgamdigkhaaDoor.Lx
open Go.Proofs.YtdlahgamdigkhaaDoor.Ps hiding Tk
theorem rtok_nxt {T : List Tk} {e : Int} {p : Nat} (h : p < T.length) : rtok T (p : Int) = nxt T e p := by
 rw [nxt, dif_pos h]; simp [rtok, rd_T69, h]
theorem eqb_list (a b : ByteArray) : (a.toList == b.toList) = decide (a = b) := by
 by_cases h : a = b
 ·subst h; simp
 ·rw [decide_eq_false h]
  apply beq_eq_false_iff_ne.2
  intro h2; exact h (bytes_toList.1 h2)
theorem is_one {T : List Tk} {e : Int} (w : ByteArray) (p : Nat) : isP T e [w] p = (decide (p < T.length) && ((rtok T (p : Int)).f0 == 1 && (rtok T (p : Int)).f2.toList == w.toList)) := by
 by_cases h : p < T.length
 ·rw [isP, rtok_nxt (e := e) h, eqb_list, decide_eq_true h, Bool.true_and, memB_cons]
  have h0 : memB (nxt T e p).f2 [] = false := rfl
  rw [h0, Bool.or_false]; rfl
 ·rw [decide_eq_false h, Bool.false_and, isP, nxt, dif_neg h]; rfl
section
variable {T : List Tk} {e : Int}
theorem ris_good (w : ByteArray) (p : Nat) : parapetref19_Reader_is.f T (p : Int) e 0 0 w = some (isP T e [w] p, (p : Int), e, 0, 0) := by
 rw [parapetref19_Reader_is.f, if_pos (by omega), is_one]
 have h : decide ((p : Int) < (T.length : Int)) = decide (p < T.length) := by
  by_cases h : p < T.length
  ·rw [decide_eq_true h, decide_eq_true (by omega)]
  ·rw [decide_eq_false h, decide_eq_false (by omega)]
 rw [h]; rfl
theorem ris_bad (w : ByteArray) {i c a : Int} (hi : 0 ≤ i) (hc : c ≠ 0) : parapetref19_Reader_is.f T i e c a w = some (false, i, e, c, a) := by
 have h : (c == 0) = false := beq_eq_false_iff_ne.2 hc
 rw [parapetref19_Reader_is.f, if_pos hi, h]; rfl
theorem isP_lt {ws : List ByteArray} {p : Nat} (h : isP T e ws p = true) : p < T.length := by
 apply Classical.byContradiction
 intro hn
 rw [isP, nxt, dif_neg hn] at h
 cases h
theorem rtake_good (w : ByteArray) (p : Nat) (hT : T.length ≤ 1000000) : parapetref19_Reader_take.f T (p : Int) e 0 0 w = some (isP T e [w] p, (if isP T e [w] p then (p : Int) + 1 else p), e, 0, 0) := by
 rw [parapetref19_Reader_take.f, ris_good, Option.bind_some]
 cases h : isP T e [w] p
 ·rfl
 ·have := isP_lt h
  have hw : wrap64 ((p : Int) + 1) = (p : Int) + 1 := by unfold wrap64; omega
  simp only [if_true, hw]
theorem rtake_bad (w : ByteArray) {i c a : Int} (hi : 0 ≤ i) (hc : c ≠ 0) : parapetref19_Reader_take.f T i e c a w = some (false, i, e, c, a) := by
 rw [parapetref19_Reader_take.f, ris_bad w hi hc, Option.bind_some]; rfl
theorem rkind_good (p : Nat) : parapetref19_Reader_kind.f T (p : Int) e 0 0 = some ((nxt T e p).f0, (p : Int), e, 0, 0) := by
 rw [parapetref19_Reader_kind.f, if_pos (by omega)]
 by_cases h : p < T.length
 ·rw [if_pos ⟨rfl, by omega⟩, rtok_nxt (e := e) h]
 ·rw [if_neg (by omega), nxt, dif_neg h]
theorem rnext_good {k : Int} (hk : k ≠ 0) {p : Nat} (hT : T.length ≤ 1000000) : parapetref19_Reader_next.f T (p : Int) e 0 0 k = some (match takeP T e k p with | .ok (t, q) => (t, (q : Int), e, 0, 0) | .error (x, y) => (⟨#[]⟩, (p : Int), e, x, y)) := by
 rw [parapetref19_Reader_next.f, if_pos ⟨by omega, hT⟩, nextR, takeP]
 by_cases h : p < T.length
 ·rw [rtok_nxt (e := e) h]
  by_cases h2 : (nxt T e p).f0 = k
  ·rw [if_pos ⟨rfl, by omega, h2⟩, if_pos h2]; simp
  ·rw [if_neg (by intro h3; exact h2 h3.2.2), if_neg h2, atR, if_pos (by omega), rtok_nxt (e := e) h]; simp; intro h3; omega
 ·have hn : nxt T e p = ⟨0, e, ⟨#[]⟩⟩ := by rw [nxt, dif_neg h]
  rw [if_neg (show ¬ ((0 : Int) = 0 ∧ (p : Int) < (T.length : Int) ∧ (rtok T (p : Int)).f0 = k) by omega), hn, if_neg (show ¬ ((⟨0, e, ⟨#[]⟩⟩ : Tk).f0 = k) from fun h => hk h.symm), atR, if_neg (show ¬ ((p : Int) < (T.length : Int)) by omega)]; simp
theorem rnext_bad (k : Int) {i c a : Int} (hi : 0 ≤ i) (hc : c ≠ 0) (hT : T.length ≤ 1000000) : parapetref19_Reader_next.f T i e c a k = some (⟨#[]⟩, i, e, c, a) := by
 rw [parapetref19_Reader_next.f, if_pos ⟨hi, hT⟩, nextR, if_neg (fun h => hc h.1), if_neg hc, if_neg hc]
theorem rwrong_good (p : Nat) (k : Int) : parapetref19_Reader_wrong.f T (p : Int) e 0 0 k = some ((p : Int), e, k, (nxt T e p).f1) := by
 rw [wrong_f T _ _ _ _ _ (by omega), if_pos rfl, if_pos rfl, atR]
 by_cases h : p < T.length
 ·rw [if_pos (by omega), rtok_nxt (e := e) h]
 ·rw [if_neg (by omega), nxt, dif_neg h]
end
theorem lower_l (s : ByteArray) (hs : s.size ≤ 1000000) : ∀ (d i : Nat), i + d = s.size → Ev (fun k => parapetref1_Lower.l0 k s (((bytesOf s).map low).take i) (i : Int)) (lowB s)
 | 0, i, h => by
  refine Ev.step (f := fun _ => some (lowB s)) (fun k => ?_) (Ev.const fun _ => rfl)
  rw [parapetref1_Lower.l0, if_neg (by omega), List.take_of_length_le (by rw [List.length_map, bytesOf_length]; omega), low_str]
 | d + 1, i, h => by
  have hb : (bytesOf s).map low = (bytesOf s).map low := rfl
  refine Ev.step (fun k => ?_) (lower_l s hs d (i + 1) (by omega))
  have hw : wrap64 ((i : Int) + 1) = ((i + 1 : Nat) : Int) := by unfold wrap64; omega
  have hlt : (((bytesOf s).map low).take i).length < 140737488355328 := by rw [List.length_take, List.length_map, bytesOf_length]; omega
  have hil : i < (bytesOf s).length := by rw [bytesOf_length]; omega
  have hbt : bt s (i : Int) = (bytesOf s)[i] := by
   have h1 := bt_drop s i (by omega)
   rw [List.drop_eq_getElem_cons hil] at h1
   injection h1 with h2; exact h2.symm
  have hnx : ((bytesOf s).map low).take (i + 1) = ((bytesOf s).map low).take i ++ [low (bytesOf s)[i]] := by
   rw [List.take_add_one, List.getElem?_map, List.getElem?_eq_getElem hil]; rfl
  rw [parapetref1_Lower.l0, if_pos (by omega), if_pos (by omega), hw, hnx, hbt]
  by_cases h1 : (bytesOf s)[i] ≥ 65
  ·rw [if_pos h1]
   by_cases h2 : (bytesOf s)[i] ≤ 90
   ·rw [if_pos h2, if_pos hlt, low, if_pos ⟨h1, h2⟩, show ((bytesOf s)[i] + 32) % 256 = (bytesOf s)[i] + 32 by omega]
   ·rw [if_neg h2, if_pos hlt, low, if_neg (fun h => h2 h.2)]
  ·rw [if_neg h1, if_pos hlt, low, if_neg (fun h => h1 h.1)]
theorem lower_ev (s : ByteArray) (hs : s.size ≤ 1000000) : Ev (fun k => parapetref1_Lower.f k s) (lowB s) := by
 have := lower_l s hs s.size 0 (by omega)
 exact this
theorem ev_eqq {α : Type} {g g' : Nat → Option α} {r : α} (h : ∀ k, g k = g' k) (e : Ev g' r) : Ev g r := by
 rw [show g = g' from funext h]; exact e
theorem take_ne (T : List Tk) (e : Int) (k : Int) (p : Nat) {x y : Int} (h : takeP T e k p = .error (x, y)) : x ≠ 0 := by
 rw [takeP] at h
 split at h
 ·cases h
 ·cases h; decide
end Go.Proofs.YtdlahgamdigkhaaDoor.Pu
namespace Go.Proofs.YtdlahgamdigkhaaDoor.Pu
open Go.RowKit Go.Proofs.YtdlahgamdigkhaaDoor.Pr Go.Proofs.YtdlahgamdigkhaaDoorW.PrintWords Go.Proofs.YtdlahgamdigkhaaDoorW.PrintLast Go.Proofs.YtdlahgamdigkhaaDoorW.PrintMore Go.Proofs.YtdlahgamdigkhaaDoor.Lx
open Go.Proofs.YtdlahgamdigkhaaDoor.Ps hiding Tk
abbrev IsR (w0 W : World) (g : Nat) (T : List Tk) (i e c a : Int) : Prop := IsS66 w0 W g T i e c a
def Step (w0 w : World) (g : Nat) (T : List Tk) (i e c a : Int) (w' : World) : Prop := IsR w0 w' g T i e c a ∧ Below w0.heap.size w0 w' ∧ KeepBut w w' g none
section
variable {w0 w : World} {g : Nat} {T : List Tk} {e : Int}
theorem r_kind (p : Nat) (h : IsR w0 w g T (p : Int) e 0 0) (hB : Below w0.heap.size w0 w) :
  Calls Tryd.prog 25 #[.pointer (some ⟨g, 0, none⟩)] w fun e' w' => e' = .returned (.int .i64 (nxt T e p).f0) ∧ Step w0 w g T (p : Int) e 0 0 w' :=
 (parapetref19_Reader_kind.calls g T _ _ _ _ _ _ _ _ _ w0 w h hB (rkind_good p)).mono fun _ _ ⟨h1, h2, h3, h4⟩ => ⟨h1, h2, h3, h4⟩
theorem r_wrong (p : Nat) (k : Int) (h : IsR w0 w g T (p : Int) e 0 0) (hB : Below w0.heap.size w0 w) :
  Calls Tryd.prog 27 #[.pointer (some ⟨g, 0, none⟩), .int .i64 k] w fun e' w' => e' = .returned (.tuple #[]) ∧ Step w0 w g T (p : Int) e k (nxt T e p).f1 w' :=
 (parapetref19_Reader_wrong.calls g T _ _ _ _ k _ _ _ _ w0 w h hB (rwrong_good p k)).mono fun _ _ ⟨h1, h2, h3, h4⟩ => ⟨h1, h2, h3, h4⟩
theorem r_take (s : ByteArray) (p : Nat) (hT : T.length ≤ 1000000) (h : IsR w0 w g T (p : Int) e 0 0) (hB : Below w0.heap.size w0 w) (b : Bool) (hb : isP T e [s] p = b) :
  Calls Tryd.prog 30 #[.pointer (some ⟨g, 0, none⟩), .string s] w fun e' w' => e' = .returned (.bool b) ∧ Step w0 w g T (if b then ((p + 1 : Nat) : Int) else (p : Int)) e 0 0 w' := by
 have hr := rtake_good (T := T) (e := e) s p hT
 rw [hb] at hr
 refine (parapetref19_Reader_take.calls g T _ _ _ _ s _ _ _ _ _ w0 w h hB hr).mono fun _ _ ⟨h1, h2, h3, h4⟩ => ⟨h1, ?_, h3, h4⟩
 cases b
 ·exact h2
 ·exact h2
theorem r_take1 (s : ByteArray) (p : Nat) (hT : T.length ≤ 1000000) (h : IsR w0 w g T (p : Int) e 0 0) (hB : Below w0.heap.size w0 w) (hb : isP T e [s] p = true) :
  Calls Tryd.prog 30 #[.pointer (some ⟨g, 0, none⟩), .string s] w fun e' w' => e' = .returned (.bool true) ∧ Step w0 w g T ((p + 1 : Nat) : Int) e 0 0 w' := r_take s p hT h hB true hb
theorem r_take0 (s : ByteArray) (p : Nat) (hT : T.length ≤ 1000000) (h : IsR w0 w g T (p : Int) e 0 0) (hB : Below w0.heap.size w0 w) (hb : isP T e [s] p = false) :
  Calls Tryd.prog 30 #[.pointer (some ⟨g, 0, none⟩), .string s] w fun e' w' => e' = .returned (.bool false) ∧ Step w0 w g T (p : Int) e 0 0 w' := r_take s p hT h hB false hb
theorem r_take_bad (s : ByteArray) {i c a : Int} (hi : 0 ≤ i) (hc : c ≠ 0) (h : IsR w0 w g T i e c a) (hB : Below w0.heap.size w0 w) :
  Calls Tryd.prog 30 #[.pointer (some ⟨g, 0, none⟩), .string s] w fun e' w' => e' = .returned (.bool false) ∧ Step w0 w g T i e c a w' :=
 (parapetref19_Reader_take.calls g T _ _ _ _ s _ _ _ _ _ w0 w h hB (rtake_bad (T := T) (e := e) s hi hc)).mono fun _ _ ⟨h1, h2, h3, h4⟩ => ⟨h1, h2, h3, h4⟩
def NxQ (r : Res ByteArray) (t : ByteArray) (i c a : Int) : Prop :=
 match r with
 | .ok (t', q) => t = t' ∧ i = (q : Int) ∧ c = 0 ∧ a = 0
 | .error (x, y) => x ≠ 0 ∧ 0 ≤ i ∧ c = x ∧ a = y ∧ t = ⟨#[]⟩
theorem r_next (k : Int) (p : Nat) (hk : k ≠ 0) (hT : T.length ≤ 1000000) (h : IsR w0 w g T (p : Int) e 0 0) (hB : Below w0.heap.size w0 w) :
  ∃ t i c a, NxQ (takeP T e k p) t i c a ∧ Calls Tryd.prog 28 #[.pointer (some ⟨g, 0, none⟩), .int .i64 k] w fun e' w' => e' = .returned (.string t) ∧ Step w0 w g T i e c a w' := by
 have hr := rnext_good (T := T) (e := e) (k := k) hk (p := p) hT
 cases ht : takeP T e k p with
 | ok x =>
  obtain ⟨t, q⟩ := x
  rw [ht] at hr
  exact ⟨t, q, 0, 0, ⟨rfl, rfl, rfl, rfl⟩, (parapetref19_Reader_next.calls g T _ _ _ _ k _ _ _ _ _ w0 w h hB hr).mono fun _ _ ⟨h1, h2, h3, h4⟩ => ⟨h1, h2, h3, h4⟩⟩
 | error x =>
  obtain ⟨x, y⟩ := x
  rw [ht] at hr
  exact ⟨_, _, x, y, ⟨take_ne T e k p ht, by omega, rfl, rfl, rfl⟩, (parapetref19_Reader_next.calls g T _ _ _ _ k _ _ _ _ _ w0 w h hB hr).mono fun _ _ ⟨h1, h2, h3, h4⟩ => ⟨h1, h2, h3, h4⟩⟩
theorem r_next_bad (k : Int) {i c a : Int} (hi : 0 ≤ i) (hc : c ≠ 0) (hT : T.length ≤ 1000000) (h : IsR w0 w g T i e c a) (hB : Below w0.heap.size w0 w) :
  Calls Tryd.prog 28 #[.pointer (some ⟨g, 0, none⟩), .int .i64 k] w fun e' w' => e' = .returned (.string ⟨#[]⟩) ∧ Step w0 w g T i e c a w' :=
 (parapetref19_Reader_next.calls g T _ _ _ _ k _ _ _ _ _ w0 w h hB (rnext_bad (T := T) (e := e) k hi hc hT)).mono fun _ _ ⟨h1, h2, h3, h4⟩ => ⟨h1, h2, h3, h4⟩
end
section
variable {T : List Tk} {e : Int}
theorem one_word {w : ByteArray} {p : Nat} (h : isP T e [w] p = true) : (nxt T e p).f0 = 1 ∧ (nxt T e p).f2 = w := by
 rw [isP, memB_cons, Bool.and_eq_true, Bool.or_eq_true] at h
 exact ⟨of_decide_eq_true h.1, h.2.elim (fun h => of_decide_eq_true h) (fun h => by cases h)⟩
theorem isP_cons (a : ByteArray) (l : List ByteArray) (p : Nat) : isP T e (a :: l) p = (isP T e [a] p || isP T e l p) := by
 rw [isP, isP, isP, memB_cons, memB_cons]
 have : memB (nxt T e p).f2 [] = false := rfl
 rw [this, Bool.or_false, Bool.and_or_distrib_left]
end
def ShQ (r : Res Sh) (s : Sh) (i c a : Int) : Prop :=
 match r with
 | .ok (s', q) => s = s' ∧ i = (q : Int) ∧ c = 0 ∧ a = 0
 | .error (x, y) => x ≠ 0 ∧ 0 ≤ i ∧ c = x ∧ a = y
def CdQ (r : Res Cd) (s : Cd) (i c a : Int) : Prop :=
 match r with
 | .ok (s', q) => s = s' ∧ i = (q : Int) ∧ c = 0 ∧ a = 0
 | .error (x, y) => x ≠ 0 ∧ 0 ≤ i ∧ c = x ∧ a = y
def CondQ (w0 w : World) (g : Nat) (T : List Tk) (e : Int) (r : Res Cd) (ed : Ending) (w' : World) : Prop :=
 ∃ (s : Cd) (i c a : Int) (v3 : Value), CdQ r s i c a ∧ ed = .returned (.agg (cdcells s v3)) ∧ Kd.V k39 39 w' w.heap.size (fun k_ => w.heap.size ≤ k_) v3 s.f2 ∧ Step w0 w g T i e c a w'
structure At (w0 W w : World) (g : Nat) (T : List Tk) (i e c a : Int) : Prop where
 i : IsR w0 w g T i e c a
 b : Below w0.heap.size w0 w
 k : KeepBut W w g none
theorem At.step {w0 W w w' : World} {g : Nat} {T : List Tk} {i e c a i' c' a' : Int} (h : At w0 W w g T i e c a) (hs : Step w0 w g T i' e c' a' w') : At w0 W w' g T i' e c' a' := ⟨hs.1, hs.2.1, h.k.trans hs.2.2 (.inl rfl)⟩
theorem At.alloc {w0 W w : World} {g : Nat} {T : List Tk} {i e c a : Int} (h : At w0 W w g T i e c a) (o : Obj) : At w0 W (w.alloc o) g T i e c a := ⟨IsS66.alloc h.i o, below_alloc h.b o, keep_alloc h.k o⟩
theorem At.drewN {w0 W w : World} {g : Nat} {T : List Tk} {i e c a : Int} (h : At w0 W w g T i e c a) (n : Nat) : At w0 W (w.drewN n) g T i e c a := ⟨IsS66.drewN h.i n, pw_below_drewN h.b n, keep_drewN h.k n⟩
theorem At.drew {w0 W w : World} {g : Nat} {T : List Tk} {i e c a : Int} (h : At w0 W w g T i e c a) : At w0 W w.drew g T i e c a := h.drewN 1
theorem At.next {w0 W w : World} {g : Nat} {T : List Tk} {p : Nat} {e c a : Int} (h : At w0 W w g T (p : Int) e c a) : At w0 W (w.setCell ⟨g, 1, none⟩ (.int .i64 ((p : Int) + 1))) g T ((p + 1 : Nat) : Int) e c a :=
 ⟨by rw [Int.natCast_add]; exact IsS66.set_1 h.i _, h.b.setCell (p := ⟨g, 1, none⟩) (IsS66.ge h.i) _, KeepBut.set_ h.k 1 _⟩
theorem At.start {w0 W : World} {g : Nat} {T : List Tk} {i e c a : Int} (h : IsR w0 W g T i e c a) (hB : Below w0.heap.size w0 W) : At w0 W W g T i e c a := ⟨h, hB, KeepBut.refl _ _ _⟩
theorem At.to {w0 W w : World} {g : Nat} {T : List Tk} {i e c a : Int} (h : At w0 W w g T i e c a) : Step w0 W g T i e c a w := ⟨h.i, h.b, h.k⟩
theorem At.setRow {w0 W w : World} {g gr : Nat} {T : List Tk} {i e c a : Int} (h : At w0 W w g T i e c a) (hg : gr ≠ g) (h0 : w0.heap.size ≤ gr) (hW : W.heap.size ≤ gr) (cs : Array Value) : At w0 W (w.setRow gr cs) g T i e c a := by
 refine ⟨?_, below_setRow h.b h0 _, ?_⟩
 ·obtain ⟨A0, c0, hb, hg', hC⟩ := h.i
  exact ⟨A0, c0, (setRow_other _ _ _ _ (Ne.symm hg)).trans hb, hg', hC⟩
 ·refine ⟨by have := h.k.1; have := (kept_setRow w gr cs).1; omega, fun k hk hne hr => ?_⟩
  exact ((kept_setRow w gr cs).2 k (by have := h.k.1; omega) (by omega)).trans (h.k.2 k hk hne hr)
theorem blk_keep {w w' : World} {g gr : Nat} {o : Obj} (h : w.heap[gr]? = some o) (hk : KeepBut w w' g none) (hne : gr ≠ g) : w'.heap[gr]? = some o := hk.blk h hne (by simp)
theorem blk_next {w : World} {g gr : Nat} {t : TypeId} {cs : Array Value} {v : Value} (h : w.heap[gr]? = some (.cells cs t (0, 0))) (hne : gr ≠ g) : (w.setCell ⟨g, 1, none⟩ v).heap[gr]? = some (.cells cs t (0, 0)) := blk_far h (p := ⟨g, 1, none⟩) hne _
theorem cond_ret {fn : Func} {w : World} {gr : Nat} {c : Cd} {v : Value} {tmps : Array Value} {p : Tmp} (h : fn.results = #[.cell p 39]) (hp : tmps.getD p undef = .pointer (some ⟨gr, 0, none⟩)) (hb : w.heap[gr]? = some (.cells (cdcells c v) 39 (0, 0))) :
  (results fn tmps).run Tryd.prog w = .ok (.agg (cdcells c v)) w := ret_row h _ _ gr 39 (cdcells c v) (0, 0) hp hb Tryd.underlying39 size_cd
end Go.Proofs.YtdlahgamdigkhaaDoor.Pu
namespace Go.Proofs.YtdlahgamdigkhaaDoor.Pu
open Go.RowKit Go.Proofs.YtdlahgamdigkhaaDoor.Pr Go.Proofs.YtdlahgamdigkhaaDoorW.PrintWords Go.Proofs.YtdlahgamdigkhaaDoorW.PrintLast Go.Proofs.YtdlahgamdigkhaaDoorW.PrintMore Go.Proofs.YtdlahgamdigkhaaDoor.Lx
open Go.Proofs.YtdlahgamdigkhaaDoor.Ps hiding Tk
def atomR (T : List Tk) (e : Int) (p : Nat) (tx : ByteArray) : Res Cd :=
 if tx = wSame ∨ tx = wTrusted ∨ tx = wCreds ∨ tx = wCors then .ok (⟨3, ⟨tx, ⟨#[]⟩⟩, []⟩, p + 1)
 else if tx = wMethod then atomT tx id (takeP T e 1 (p + 1))
 else if tx = wDest ∨ tx = wScheme ∨ tx = wHeader then atomT tx lowB (takeP T e 1 (p + 1))
 else if tx = wHost ∨ tx = wPath then atomT tx id (takeP T e 2 (p + 1))
 else .error (8, (nxt T e p).f1)
section
variable {T : List Tk} {e : Int} {p : Nat} {tx : ByteArray}
theorem atomR_word (h : tx = wSame ∨ tx = wTrusted ∨ tx = wCreds ∨ tx = wCors) : atomR T e p tx = .ok (⟨3, ⟨tx, ⟨#[]⟩⟩, []⟩, p + 1) := if_pos h
theorem atomR_method (h : tx = wMethod) : atomR T e p tx = atomT tx id (takeP T e 1 (p + 1)) := by subst h; rw [atomR, if_neg (by decide +kernel), if_pos rfl]
theorem atomR_low (h : tx = wDest ∨ tx = wScheme ∨ tx = wHeader) : atomR T e p tx = atomT tx lowB (takeP T e 1 (p + 1)) := by
 rw [atomR, if_neg (by rcases h with rfl | rfl | rfl <;> decide +kernel), if_neg (by rcases h with rfl | rfl | rfl <;> decide +kernel), if_pos h]
theorem atomR_str (h : tx = wHost ∨ tx = wPath) : atomR T e p tx = atomT tx id (takeP T e 2 (p + 1)) := by
 rw [atomR, if_neg (by rcases h with rfl | rfl <;> decide +kernel), if_neg (by rcases h with rfl | rfl <;> decide +kernel), if_neg (by rcases h with rfl | rfl <;> decide +kernel), if_pos h]
theorem atomR_none (h : ¬ tx ∈ [wSame, wTrusted, wCreds, wCors, wMethod, wDest, wScheme, wHeader, wHost, wPath]) : atomR T e p tx = .error (8, (nxt T e p).f1) := by
 simp only [List.mem_cons, List.mem_nil_iff, or_false, not_or] at h
 obtain ⟨h0, h1, h2, h3, h4, h5, h6, h7, h8, h9⟩ := h
 rw [atomR, if_neg (fun h => h.elim h0 (fun h => h.elim h1 (fun h => h.elim h2 h3))), if_neg h4, if_neg (fun h => h.elim h5 (fun h => h.elim h6 h7)), if_neg (fun h => h.elim h8 h9)]
theorem atom_plain {R : Res Cd} (h : R = .ok (⟨3, ⟨tx, ⟨#[]⟩⟩, []⟩, p + 1)) : CdQ R ⟨3, ⟨tx, ⟨#[]⟩⟩, []⟩ ((p + 1 : Nat) : Int) 0 0 := by rw [h]; exact ⟨rfl, rfl, rfl, rfl⟩
theorem atom_f {R : Res Cd} {f : ByteArray → ByteArray} {r : Res ByteArray} {t : ByteArray} {i c a : Int} (h : R = atomT tx f r) (hQ : NxQ r t i c a) : CdQ R ⟨3, ⟨tx, f t⟩, []⟩ i c a := by
 cases r with
 | ok x => obtain ⟨t', q⟩ := x; rw [h]; obtain ⟨rfl, rfl, rfl, rfl⟩ := hQ; exact ⟨rfl, rfl, rfl, rfl⟩
 | error x => obtain ⟨x, y⟩ := x; rw [h]; exact ⟨hQ.1, hQ.2.1, hQ.2.2.1, hQ.2.2.2.1⟩
theorem atom_txt {R : Res Cd} {r : Res ByteArray} {t : ByteArray} {i c a : Int} (h : R = atomT tx id r) (hQ : NxQ r t i c a) : CdQ R ⟨3, ⟨tx, t⟩, []⟩ i c a := atom_f h hQ
theorem atom_low {R : Res Cd} {r : Res ByteArray} {t : ByteArray} {i c a : Int} (h : R = atomT tx lowB r) (hQ : NxQ r t i c a) : CdQ R ⟨3, ⟨tx, lowB t⟩, []⟩ i c a := atom_f h hQ
theorem nx_size (hS : ∀ t ∈ T, t.f2.size ≤ 1000000) {k : Int} {q : Nat} {t : ByteArray} {i c a : Int} (hQ : NxQ (takeP T e k q) t i c a) : t.size ≤ 1000000 := by
 cases ht : takeP T e k q with
 | ok x =>
  obtain ⟨t', q2⟩ := x
  rw [ht] at hQ
  obtain ⟨rfl, _⟩ := hQ
  rw [takeP] at ht
  split at ht
  ·cases ht
   rw [nxt]
   split
   ·exact hS _ (List.getElem_mem _)
   ·exact Nat.zero_le _
  ·cases ht
 | error x => obtain ⟨x, y⟩ := x; rw [ht] at hQ; obtain ⟨_, _, _, _, rfl⟩ := hQ; exact Nat.zero_le _
theorem empty_no : ¬ (⟨#[]⟩ : ByteArray) ∈ [wSame, wTrusted, wCreds, wCors, wMethod, wDest, wScheme, wHeader, wHost, wPath] := by
 intro h
 simp only [List.mem_cons, List.mem_nil_iff, or_false] at h
 rcases h with h | h | h | h | h | h | h | h | h | h <;> (revert h; decide +kernel)
theorem atomP_tx (ht : isP T e [wTrue] p = false) (hf : isP T e [wFalse] p = false) (htx : tx = if (nxt T e p).f0 = 1 then (nxt T e p).f2 else ⟨#[]⟩) : atomP T e p = atomR T e p tx := by
 by_cases h1 : (nxt T e p).f0 = 1
 ·rw [if_pos h1] at htx
  have n0 : tx ≠ wTrue := by
   intro he; rw [isP, h1, ← htx, he] at ht; revert ht; decide +kernel
  have n1 : tx ≠ wFalse := by
   intro he; rw [isP, h1, ← htx, he] at hf; revert hf; decide +kernel
  have hi : isP T e atomWords p = memB tx [wSame, wTrusted, wCreds, wCors, wMethod, wDest, wScheme, wHeader, wHost, wPath] := by
   rw [isP, h1, ← htx, atomWords, memB_cons, memB_cons, decide_eq_false n0, decide_eq_false n1]; rfl
  by_cases hm : tx ∈ [wSame, wTrusted, wCreds, wCors, wMethod, wDest, wScheme, wHeader, wHost, wPath]
  ·have hb : memB tx [wSame, wTrusted, wCreds, wCors, wMethod, wDest, wScheme, wHeader, wHost, wPath] = true := by
    rw [memB, List.any_eq_true]; exact ⟨tx, hm, by simp⟩
   have htk : takeP T e 1 p = .ok (tx, p + 1) := by rw [takeP, if_pos h1, ← htx]
   rw [atomP, wordP, hi, hb, if_pos rfl, htk]
   show atomK T e tx (p + 1) = _
   rw [atomK, if_neg n0, if_neg n1, atomR]
   by_cases hw : tx = wSame ∨ tx = wTrusted ∨ tx = wCreds ∨ tx = wCors
   ·rw [if_pos hw, if_neg (by rcases hw with rfl | rfl | rfl | rfl <;> decide +kernel), if_neg (by rcases hw with rfl | rfl | rfl | rfl <;> decide +kernel), if_neg (by rcases hw with rfl | rfl | rfl | rfl <;> decide +kernel)]
   ·rw [if_neg hw]
    by_cases hm2 : tx = wMethod
    ·rw [if_pos hm2, if_pos hm2]
    ·rw [if_neg hm2, if_neg hm2]
     by_cases h3 : tx = wDest ∨ tx = wScheme ∨ tx = wHeader
     ·rw [if_pos h3, if_pos h3]
     ·rw [if_neg h3, if_neg h3]
      by_cases h4 : tx = wHost ∨ tx = wPath
      ·rw [if_pos h4, if_pos h4]
      ·exfalso
       simp only [List.mem_cons, List.mem_nil_iff, or_false] at hm
       rcases hm with h | h | h | h | h | h | h | h | h | h
       all_goals first | exact hw (.inl h) | exact hw (.inr (.inl h)) | exact hw (.inr (.inr (.inl h))) | exact hw (.inr (.inr (.inr h))) | exact hm2 h | exact h3 (.inl h) | exact h3 (.inr (.inl h)) | exact h3 (.inr (.inr h)) | exact h4 (.inl h) | exact h4 (.inr h)
  ·have hb : memB tx [wSame, wTrusted, wCreds, wCors, wMethod, wDest, wScheme, wHeader, wHost, wPath] = false := by
    rw [← Bool.not_eq_true, memB, List.any_eq_true]
    rintro ⟨x, hx, he⟩
    exact hm ((of_decide_eq_true he) ▸ hx)
   rw [atomP, wordP, hi, hb, if_neg Bool.false_ne_true, atomR_none hm]
 ·rw [if_neg h1] at htx
  have hi : isP T e atomWords p = false := by rw [isP, decide_eq_false h1]; rfl
  rw [atomP, wordP, hi, if_neg Bool.false_ne_true, atomR_none (by rw [htx]; exact empty_no)]
end
theorem At.below {w0 W w w' : World} {g : Nat} {T : List Tk} {i e c a : Int} (h : At w0 W w g T i e c a) (hb : Below w.heap.size w w') : At w0 W w' g T i e c a :=
 ⟨IsS66.below h.i hb, h.b.trans (hb.mono h.b.size), h.k.trans (KeepBut.of_below hb _ _) (.inl rfl)⟩
theorem atomP_wTrue {T : List Tk} {e : Int} {p : Nat} (h : isP T e [wTrue] p = true) : atomP T e p = .ok (cond0 1 [], p + 1) := by
 obtain ⟨h1, h2⟩ := one_word h
 rw [atomP, wordP, show isP T e atomWords p = true from by rw [isP, h1, h2]; decide +kernel, if_pos rfl, takeP, if_pos h1, h2]; rfl
theorem atomP_wFalse {T : List Tk} {e : Int} {p : Nat} (h : isP T e [wFalse] p = true) : atomP T e p = .ok (cond0 2 [], p + 1) := by
 obtain ⟨h1, h2⟩ := one_word h
 rw [atomP, wordP, show isP T e atomWords p = true from by rw [isP, h1, h2]; decide +kernel, if_pos rfl, takeP, if_pos h1, h2]; rfl
set_option maxHeartbeats 16000000
set_option maxRecDepth 100000
theorem sc_word {p_ : Prop} (h_ : p_ := by
 obtain ⟨A8, c8, hb8, _, _⟩ := HA5.out.i
 have t1 : w5.cell? ⟨g, 1, none⟩ = some (.int .i64 (p : Int)) := cellS66_1 hb8
 have f1 := blk_frozen hb8 1
 clear hb8
 go_upto_region 14 with (fail)
 obtain ⟨w6, hw6⟩ : ∃ w6, w6 = w5.setCell ⟨g, 1, none⟩ (.int .i64 ((p : Int) + 1)) := ⟨_, rfl⟩
 rw [← hw6]
 have HA6 : Aside0 (At w0 W w6 g T ((p + 1 : Nat) : Int) e 0 0) := ⟨by rw [hw6]; exact HA5.out.next⟩
 have HX6 : Aside0 (w6.heap[gr]? = some (.cells #[.int .i64 0, .string ⟨#[]⟩, .string ⟨#[]⟩, .slice none 0 0] 39 (0, 0))) := ⟨by rw [hw6]; exact blk_next HX5.out HG.out.1⟩
 clear hw6 t1 f1 HA5 HX5
 go_wp2_with (refine wpList_store_row rfl 39 _ _ rfl gr (cdcells ⟨3, ⟨tx, ⟨#[]⟩⟩, []⟩ (.slice none 0 0)) rfl rfl 39 _ HX6.out size_cd rfl (cd_one _ _ rfl) ?_)
 exact bodyPost_ret (cond_ret rfl rfl (setRow_heap _ _ _ _ _ _ HX6.out)) rfl ⟨_, _, 0, 0, _, atom_plain HR.out, rfl, Kd.V_nil _ _ _ _ _, (HA6.out.setRow HG.out.1 HG.out.2.1 HG.out.2.2 _).to⟩) : p_ := h_
theorem sc_method {p_ : Prop} (h_ : p_ := by
 obtain ⟨A8, c8, hb8, _, _⟩ := HA5.out.i
 have t1 : w5.cell? ⟨g, 1, none⟩ = some (.int .i64 (p : Int)) := cellS66_1 hb8
 have f1 := blk_frozen hb8 1
 clear hb8
 go_upto_region 17 with (fail)
 obtain ⟨w6, hw6⟩ : ∃ w6, w6 = w5.setCell ⟨g, 1, none⟩ (.int .i64 ((p : Int) + 1)) := ⟨_, rfl⟩
 rw [← hw6]
 have HA6 : Aside0 (At w0 W w6 g T ((p + 1 : Nat) : Int) e 0 0) := ⟨by rw [hw6]; exact HA5.out.next⟩
 have HX6 : Aside0 (w6.heap[gr]? = some (.cells #[.int .i64 0, .string ⟨#[]⟩, .string ⟨#[]⟩, .slice none 0 0] 39 (0, 0))) := ⟨by rw [hw6]; exact blk_next HX5.out HG.out.1⟩
 clear hw6 t1 f1 HA5 HX5
 obtain ⟨t, i7, c7, a7, hQ, hC⟩ := r_next (w0 := w0) (w := w6) (g := g) (T := T) (e := e) 1 (p + 1) (by decide) HT.out HA6.out.i HA6.out.b
 have HQ := Aside0.mk hQ
 have HC := Aside0.mk hC
 clear hQ hC
 go_wp2_with fail
 refine HC.out.mono ?_
 rintro ed w7 ⟨rfl, hs⟩
 dsimp only
 have HA7 := Aside0.mk (HA6.out.step hs)
 have HX7 : Aside0 (w7.heap[gr]? = some (.cells #[.int .i64 0, .string ⟨#[]⟩, .string ⟨#[]⟩, .slice none 0 0] 39 (0, 0))) := ⟨blk_keep HX6.out hs.2.2 HG.out.1⟩
 clear hs HC HA6 HX6
 go_wp2_with (refine wpList_store_row rfl 39 _ _ rfl gr (cdcells ⟨3, ⟨tx, t⟩, []⟩ (.slice none 0 0)) rfl rfl 39 _ HX7.out size_cd rfl (cd_one _ _ rfl) ?_)
 exact bodyPost_ret (cond_ret rfl rfl (setRow_heap _ _ _ _ _ _ HX7.out)) rfl ⟨_, i7, c7, a7, _, atom_txt HR.out HQ.out, rfl, Kd.V_nil _ _ _ _ _, (HA7.out.setRow HG.out.1 HG.out.2.1 HG.out.2.2 _).to⟩) : p_ := h_
theorem sc_low {p_ : Prop} (h_ : p_ := by
 obtain ⟨A8, c8, hb8, _, _⟩ := HA5.out.i
 have t1 : w5.cell? ⟨g, 1, none⟩ = some (.int .i64 (p : Int)) := cellS66_1 hb8
 have f1 := blk_frozen hb8 1
 clear hb8
 go_upto_region 22 with (fail)
 obtain ⟨w6, hw6⟩ : ∃ w6, w6 = w5.setCell ⟨g, 1, none⟩ (.int .i64 ((p : Int) + 1)) := ⟨_, rfl⟩
 rw [← hw6]
 have HA6 : Aside0 (At w0 W w6 g T ((p + 1 : Nat) : Int) e 0 0) := ⟨by rw [hw6]; exact HA5.out.next⟩
 have HX6 : Aside0 (w6.heap[gr]? = some (.cells #[.int .i64 0, .string ⟨#[]⟩, .string ⟨#[]⟩, .slice none 0 0] 39 (0, 0))) := ⟨by rw [hw6]; exact blk_next HX5.out HG.out.1⟩
 clear hw6 t1 f1 HA5 HX5
 obtain ⟨t, i7, c7, a7, hQ, hC⟩ := r_next (w0 := w0) (w := w6) (g := g) (T := T) (e := e) 1 (p + 1) (by decide) HT.out HA6.out.i HA6.out.b
 have HQ := Aside0.mk hQ
 have HC := Aside0.mk hC
 clear hQ hC
 go_wp2_with fail
 refine HC.out.mono ?_
 rintro ed w7 ⟨rfl, hs⟩
 dsimp only
 have HA7 := Aside0.mk (HA6.out.step hs)
 have HX7 : Aside0 (w7.heap[gr]? = some (.cells #[.int .i64 0, .string ⟨#[]⟩, .string ⟨#[]⟩, .slice none 0 0] 39 (0, 0))) := ⟨blk_keep HX6.out hs.2.2 HG.out.1⟩
 clear hs HC HA6 HX6
 have hts : t.size ≤ 1000000 := nx_size HS.out HQ.out
 obtain ⟨k1, hk1⟩ := lower_ev t hts
 have HLW := Aside0.mk (hk1 k1 (Nat.le_refl _))
 clear hk1 hts
 go_wp2_with fail
 refine (parapetref1_Lower.calls k1 t _ w7 HLW.out).mono ?_
 rintro ed w8 ⟨rfl, hb8⟩
 dsimp only
 have HA8 : Aside0 (At w0 W w8 g T i7 e c7 a7) := ⟨HA7.out.below hb8⟩
 have HX8 : Aside0 (w8.heap[gr]? = some (.cells #[.int .i64 0, .string ⟨#[]⟩, .string ⟨#[]⟩, .slice none 0 0] 39 (0, 0))) := ⟨blk_below HX7.out hb8⟩
 clear hb8 HA7 HX7
 go_wp2_with (refine wpList_store_row rfl 39 _ _ rfl gr (cdcells ⟨3, ⟨tx, lowB t⟩, []⟩ (.slice none 0 0)) rfl rfl 39 _ HX8.out size_cd rfl (cd_one _ _ rfl) ?_)
 exact bodyPost_ret (cond_ret rfl rfl (setRow_heap _ _ _ _ _ _ HX8.out)) rfl ⟨_, i7, c7, a7, _, atom_low HR.out HQ.out, rfl, Kd.V_nil _ _ _ _ _, (HA8.out.setRow HG.out.1 HG.out.2.1 HG.out.2.2 _).to⟩) : p_ := h_
theorem sc_str {p_ : Prop} (h_ : p_ := by
 obtain ⟨A8, c8, hb8, _, _⟩ := HA5.out.i
 have t1 : w5.cell? ⟨g, 1, none⟩ = some (.int .i64 (p : Int)) := cellS66_1 hb8
 have f1 := blk_frozen hb8 1
 clear hb8
 go_upto_region 26 with (fail)
 obtain ⟨w6, hw6⟩ : ∃ w6, w6 = w5.setCell ⟨g, 1, none⟩ (.int .i64 ((p : Int) + 1)) := ⟨_, rfl⟩
 rw [← hw6]
 have HA6 : Aside0 (At w0 W w6 g T ((p + 1 : Nat) : Int) e 0 0) := ⟨by rw [hw6]; exact HA5.out.next⟩
 have HX6 : Aside0 (w6.heap[gr]? = some (.cells #[.int .i64 0, .string ⟨#[]⟩, .string ⟨#[]⟩, .slice none 0 0] 39 (0, 0))) := ⟨by rw [hw6]; exact blk_next HX5.out HG.out.1⟩
 clear hw6 t1 f1 HA5 HX5
 obtain ⟨t, i7, c7, a7, hQ, hC⟩ := r_next (w0 := w0) (w := w6) (g := g) (T := T) (e := e) 2 (p + 1) (by decide) HT.out HA6.out.i HA6.out.b
 have HQ := Aside0.mk hQ
 have HC := Aside0.mk hC
 clear hQ hC
 go_wp2_with fail
 refine HC.out.mono ?_
 rintro ed w7 ⟨rfl, hs⟩
 dsimp only
 have HA7 := Aside0.mk (HA6.out.step hs)
 have HX7 : Aside0 (w7.heap[gr]? = some (.cells #[.int .i64 0, .string ⟨#[]⟩, .string ⟨#[]⟩, .slice none 0 0] 39 (0, 0))) := ⟨blk_keep HX6.out hs.2.2 HG.out.1⟩
 clear hs HC HA6 HX6
 go_wp2_with (refine wpList_store_row rfl 39 _ _ rfl gr (cdcells ⟨3, ⟨tx, t⟩, []⟩ (.slice none 0 0)) rfl rfl 39 _ HX7.out size_cd rfl (cd_one _ _ rfl) ?_)
 exact bodyPost_ret (cond_ret rfl rfl (setRow_heap _ _ _ _ _ _ HX7.out)) rfl ⟨_, i7, c7, a7, _, atom_txt HR.out HQ.out, rfl, Kd.V_nil _ _ _ _ _, (HA7.out.setRow HG.out.1 HG.out.2.1 HG.out.2.2 _).to⟩) : p_ := h_
theorem ratom_calls (w0 W : World) (g : Nat) (T : List Tk) (e : Int) (p : Nat) (h : IsR w0 W g T (p : Int) e 0 0) (hB : Below w0.heap.size w0 W) (hT : T.length ≤ 1000000) (hS : ∀ t ∈ T, t.f2.size ≤ 1000000) :
  Calls Tryd.prog 72 #[.pointer (some ⟨g, 0, none⟩)] W (CondQ w0 W g T e (atomP T e p)) := by
 have HT := Aside0.mk hT
 have HS := Aside0.mk hS
 obtain ⟨gr, hgr⟩ : ∃ gr, gr = W.heap.size := ⟨_, rfl⟩
 have HA1 : Aside0 (At w0 W (W.alloc (.cells #[.int .i64 0, .string ⟨#[]⟩, .string ⟨#[]⟩, .slice none 0 0] 39)) g T (p : Int) e 0 0) := ⟨(At.start h hB).alloc _⟩
 have HX1 : Aside0 ((W.alloc (.cells #[.int .i64 0, .string ⟨#[]⟩, .string ⟨#[]⟩, .slice none 0 0] 39)).heap[gr]? = some (.cells #[.int .i64 0, .string ⟨#[]⟩, .string ⟨#[]⟩, .slice none 0 0] 39 (0, 0))) := ⟨by rw [hgr]; exact blk_new _ _⟩
 have HG : Aside0 (gr ≠ g ∧ w0.heap.size ≤ gr ∧ W.heap.size ≤ gr) := ⟨by have := IsS66.lt h; have := hB.size; omega⟩
 obtain ⟨R, hR⟩ : ∃ R, R = atomP T e p := ⟨_, rfl⟩
 rw [← hR]
 have HR0 := Aside0.mk hR
 clear hR h hB hT hS
 go_enter Tryd.func72, Tryd.ntmps72
 go_upto_region 1 with (fail)
 obtain ⟨w1, hw1⟩ : ∃ w1, w1 = W.alloc (.cells #[.int .i64 0, .string ⟨#[]⟩, .string ⟨#[]⟩, .slice none 0 0] 39) := ⟨_, rfl⟩
 rw [← hw1] at HA1 HX1
 rw [← hw1, ← hgr]
 clear hw1 hgr
 cases hif : isP T e [wTrue] p with
 | true =>
  have HIF := Aside0.mk hif
  obtain rfl : R = .ok (cond0 1 [], p + 1) := by rw [HR0.out]; exact atomP_wTrue HIF.out
  clear hif
  go_wp2_with fail
  refine (r_take1 (T := T) (e := e) wTrue p HT.out HA1.out.i HA1.out.b HIF.out).mono ?_
  rintro ed w3 ⟨rfl, hs⟩
  dsimp only
  have HA3 := Aside0.mk (HA1.out.step hs)
  have HX3 : Aside0 (w3.heap[gr]? = some (.cells #[.int .i64 0, .string ⟨#[]⟩, .string ⟨#[]⟩, .slice none 0 0] 39 (0, 0))) := ⟨blk_keep HX1.out hs.2.2 HG.out.1⟩
  clear hs
  go_wp2_with (refine wpList_store_row rfl 39 _ _ rfl gr (cdcells (cond0 1 []) (.slice none 0 0)) rfl rfl 39 _ HX3.out size_cd rfl (cd_one _ _ rfl) ?_)
  exact bodyPost_ret (cond_ret rfl rfl (setRow_heap _ _ _ _ _ _ HX3.out)) rfl ⟨_, _, 0, 0, _, ⟨rfl, rfl, rfl, rfl⟩, rfl, Kd.V_nil _ _ _ _ _, (HA3.out.setRow HG.out.1 HG.out.2.1 HG.out.2.2 _).to⟩
 | false =>
  have HI3 := Aside0.mk hif
  clear hif
  go_wp2_with fail
  refine (r_take0 (T := T) (e := e) wTrue p HT.out HA1.out.i HA1.out.b HI3.out).mono ?_
  rintro ed w3 ⟨rfl, hs⟩
  dsimp only
  have HA3 := Aside0.mk (HA1.out.step hs)
  have HX3 : Aside0 (w3.heap[gr]? = some (.cells #[.int .i64 0, .string ⟨#[]⟩, .string ⟨#[]⟩, .slice none 0 0] 39 (0, 0))) := ⟨blk_keep HX1.out hs.2.2 HG.out.1⟩
  clear hs HA1 HX1
  cases hif : isP T e [wFalse] p with
  | true =>
   have HIF := Aside0.mk hif
   obtain rfl : R = .ok (cond0 2 [], p + 1) := by rw [HR0.out]; exact atomP_wFalse HIF.out
   clear hif
   go_wp2_with fail
   refine (r_take1 (T := T) (e := e) wFalse p HT.out HA3.out.i HA3.out.b HIF.out).mono ?_
   rintro ed w3 ⟨rfl, hs⟩
   dsimp only
   have HA3 := Aside0.mk (HA3.out.step hs)
   have HX3 : Aside0 (w3.heap[gr]? = some (.cells #[.int .i64 0, .string ⟨#[]⟩, .string ⟨#[]⟩, .slice none 0 0] 39 (0, 0))) := ⟨blk_keep HX3.out hs.2.2 HG.out.1⟩
   clear hs
   go_wp2_with (refine wpList_store_row rfl 39 _ _ rfl gr (cdcells (cond0 2 []) (.slice none 0 0)) rfl rfl 39 _ HX3.out size_cd rfl (cd_one _ _ rfl) ?_)
   exact bodyPost_ret (cond_ret rfl rfl (setRow_heap _ _ _ _ _ _ HX3.out)) rfl ⟨_, _, 0, 0, _, ⟨rfl, rfl, rfl, rfl⟩, rfl, Kd.V_nil _ _ _ _ _, (HA3.out.setRow HG.out.1 HG.out.2.1 HG.out.2.2 _).to⟩
  | false =>
   have HI2 := Aside0.mk hif
   clear hif
   go_wp2_with fail
   refine (r_take0 (T := T) (e := e) wFalse p HT.out HA3.out.i HA3.out.b HI2.out).mono ?_
   rintro ed w2 ⟨rfl, hs⟩
   dsimp only
   have HA2 := Aside0.mk (HA3.out.step hs)
   have HX2 : Aside0 (w2.heap[gr]? = some (.cells #[.int .i64 0, .string ⟨#[]⟩, .string ⟨#[]⟩, .slice none 0 0] 39 (0, 0))) := ⟨blk_keep HX3.out hs.2.2 HG.out.1⟩
   clear hs HA3 HX3
   obtain ⟨tk, htk⟩ : ∃ tk, tk = nxt T e p := ⟨_, rfl⟩
   have h4 := r_kind (T := T) (e := e) p HA2.out.i HA2.out.b
   rw [← htk] at h4
   have HRX : Aside0 (∀ tx, tx = (if tk.f0 = 1 then tk.f2 else ⟨#[]⟩) → R = atomR T e p tx) := ⟨fun tx hx => by rw [HR0.out]; exact atomP_tx HI3.out HI2.out (by rw [← htk]; exact hx)⟩
   obtain ⟨k0, p0, wd⟩ := tk
   dsimp only at h4
   have H4 := Aside0.mk h4
   have HTK := Aside0.mk htk
   clear h4 htk
   go_wp2_with fail
   refine H4.out.mono ?_
   rintro ed w4 ⟨rfl, hs⟩
   dsimp only
   have HA4 := Aside0.mk (HA2.out.step hs)
   have HX4 : Aside0 (w4.heap[gr]? = some (.cells #[.int .i64 0, .string ⟨#[]⟩, .string ⟨#[]⟩, .slice none 0 0] 39 (0, 0))) := ⟨blk_keep HX2.out hs.2.2 HG.out.1⟩
   clear hs HA2 HX2 H4
   by_cases hk0 : k0 = 1
   ·have l6 : (k0 == (1 : Int)) = true := by simp [hk0]
    have HPT : Aside0 (p < T.length) := ⟨by
     apply Classical.byContradiction; intro hn
     have h2 := HTK.out
     rw [nxt, dif_neg hn] at h2
     have h3 : k0 = 0 := congrArg (fun t : Tk => t.f0) h2
     rw [h3] at hk0
     exact absurd hk0 (by decide)⟩
    have HRT : Aside0 (R = atomR T e p wd) := ⟨HRX.out wd (by rw [if_pos hk0])⟩
    obtain ⟨n0, hn0⟩ : ∃ n0, n0 = T.length := ⟨_, rfl⟩
    obtain ⟨A6, c6, hb6, _, hC6⟩ := HA4.out.i
    obtain ⟨ad, hA1, _, _, q2⟩ := at_T69 hC6 (p : Int) (by omega) (by have := HPT.out; omega)
    have hA2 : A6 = some ad := hA1
    subst hA2
    change _ = some (Value.string (rtok T (p : Int)).f2) at q2
    rw [rtok_nxt (e := e) HPT.out, ← HTK.out] at q2
    dsimp only at q2
    simp only [Int.toNat_natCast] at q2
    replace q2 := (HA4.out.b.cell (World.block_lt_of_cell? w0 _ q2)).trans q2
    have hbl := World.block_lt_of_cell? w4 _ q2
    have t0 : w4.cell? ⟨g, 0, none⟩ = some (.slice (some ad) n0 c6) := by rw [hn0]; exact cellS66_0 hb6
    have t1 : w4.cell? ⟨g, 1, none⟩ = some (.int .i64 (p : Int)) := cellS66_1 hb6
    have hlt2 : (p : Int) < (n0 : Int) := by have := HPT.out; omega
    clear hb6 hC6 hA1 hn0 hk0 HRX HR0
    go_wp2
    go_quiet (fail)
    obtain ⟨w5, hw5⟩ : ∃ w5, w5 = w4.drewN nq := ⟨_, rfl⟩
    rw [← hw5]
    have HA5 : Aside0 (At w0 W w5 g T (p : Int) e 0 0) := ⟨by rw [hw5]; exact HA4.out.drewN _⟩
    have HX5 : Aside0 (w5.heap[gr]? = some (.cells #[.int .i64 0, .string ⟨#[]⟩, .string ⟨#[]⟩, .slice none 0 0] 39 (0, 0))) := ⟨by rw [hw5]; exact HX4.out⟩
    have hjb : (p : Int) ≤ 1000000 := by have := HT.out; have := HPT.out; omega
    clear hw5 q2 hbl t0 t1 HA4 HX4 hlt2 l6
    obtain ⟨tx, htx⟩ : ∃ tx, tx = wd := ⟨_, rfl⟩
    rw [← htx] at HRT ⊢
    clear htx HTK
    by_cases h0 : tx = wSame
    ·have t0 : (tx.toList == [115, 97, 109, 101, 45, 111, 114, 105, 103, 105, 110]) = true := (eq_word (w := tx) (a := wSame) (by decide +kernel)).trans (decide_eq_true h0)
     have HR : Aside0 (R = .ok (⟨3, ⟨tx, ⟨#[]⟩⟩, []⟩, p + 1)) := ⟨by rw [HRT.out]; exact atomR_word (.inl h0)⟩
     clear h0 HRT
     exact sc_word
    ·have t0 : (tx.toList == [115, 97, 109, 101, 45, 111, 114, 105, 103, 105, 110]) = false := (eq_word (w := tx) (a := wSame) (by decide +kernel)).trans (decide_eq_false h0)
     by_cases h1 : tx = wTrusted
     ·have t1 : (tx.toList == [116, 114, 117, 115, 116, 101, 100]) = true := (eq_word (w := tx) (a := wTrusted) (by decide +kernel)).trans (decide_eq_true h1)
      have HR : Aside0 (R = .ok (⟨3, ⟨tx, ⟨#[]⟩⟩, []⟩, p + 1)) := ⟨by rw [HRT.out]; exact atomR_word (.inr (.inl h1))⟩
      clear h1 HRT
      exact sc_word
     ·have t1 : (tx.toList == [116, 114, 117, 115, 116, 101, 100]) = false := (eq_word (w := tx) (a := wTrusted) (by decide +kernel)).trans (decide_eq_false h1)
      by_cases h2 : tx = wCreds
      ·have t2 : (tx.toList == [99, 114, 101, 100, 115]) = true := (eq_word (w := tx) (a := wCreds) (by decide +kernel)).trans (decide_eq_true h2)
       have HR : Aside0 (R = .ok (⟨3, ⟨tx, ⟨#[]⟩⟩, []⟩, p + 1)) := ⟨by rw [HRT.out]; exact atomR_word (.inr (.inr (.inl h2)))⟩
       clear h2 HRT
       exact sc_word
      ·have t2 : (tx.toList == [99, 114, 101, 100, 115]) = false := (eq_word (w := tx) (a := wCreds) (by decide +kernel)).trans (decide_eq_false h2)
       by_cases h3 : tx = wCors
       ·have t3 : (tx.toList == [99, 111, 114, 115]) = true := (eq_word (w := tx) (a := wCors) (by decide +kernel)).trans (decide_eq_true h3)
        have HR : Aside0 (R = .ok (⟨3, ⟨tx, ⟨#[]⟩⟩, []⟩, p + 1)) := ⟨by rw [HRT.out]; exact atomR_word (.inr (.inr (.inr h3)))⟩
        clear h3 HRT
        exact sc_word
       ·have t3 : (tx.toList == [99, 111, 114, 115]) = false := (eq_word (w := tx) (a := wCors) (by decide +kernel)).trans (decide_eq_false h3)
        by_cases h4 : tx = wMethod
        ·have t4 : (tx.toList == [109, 101, 116, 104, 111, 100]) = true := (eq_word (w := tx) (a := wMethod) (by decide +kernel)).trans (decide_eq_true h4)
         have HR : Aside0 (R = atomT tx id (takeP T e 1 (p + 1))) := ⟨by rw [HRT.out]; exact atomR_method h4⟩
         clear h4 HRT
         exact sc_method
        ·have t4 : (tx.toList == [109, 101, 116, 104, 111, 100]) = false := (eq_word (w := tx) (a := wMethod) (by decide +kernel)).trans (decide_eq_false h4)
         by_cases h5 : tx = wDest
         ·have t5 : (tx.toList == [100, 101, 115, 116]) = true := (eq_word (w := tx) (a := wDest) (by decide +kernel)).trans (decide_eq_true h5)
          have HR : Aside0 (R = atomT tx lowB (takeP T e 1 (p + 1))) := ⟨by rw [HRT.out]; exact atomR_low (.inl h5)⟩
          clear h5 HRT
          exact sc_low
         ·have t5 : (tx.toList == [100, 101, 115, 116]) = false := (eq_word (w := tx) (a := wDest) (by decide +kernel)).trans (decide_eq_false h5)
          by_cases h6 : tx = wScheme
          ·have t6 : (tx.toList == [115, 99, 104, 101, 109, 101]) = true := (eq_word (w := tx) (a := wScheme) (by decide +kernel)).trans (decide_eq_true h6)
           have HR : Aside0 (R = atomT tx lowB (takeP T e 1 (p + 1))) := ⟨by rw [HRT.out]; exact atomR_low (.inr (.inl h6))⟩
           clear h6 HRT
           exact sc_low
          ·have t6 : (tx.toList == [115, 99, 104, 101, 109, 101]) = false := (eq_word (w := tx) (a := wScheme) (by decide +kernel)).trans (decide_eq_false h6)
           by_cases h7 : tx = wHeader
           ·have t7 : (tx.toList == [104, 101, 97, 100, 101, 114]) = true := (eq_word (w := tx) (a := wHeader) (by decide +kernel)).trans (decide_eq_true h7)
            have HR : Aside0 (R = atomT tx lowB (takeP T e 1 (p + 1))) := ⟨by rw [HRT.out]; exact atomR_low (.inr (.inr h7))⟩
            clear h7 HRT
            exact sc_low
           ·have t7 : (tx.toList == [104, 101, 97, 100, 101, 114]) = false := (eq_word (w := tx) (a := wHeader) (by decide +kernel)).trans (decide_eq_false h7)
            by_cases h8 : tx = wHost
            ·have t8 : (tx.toList == [104, 111, 115, 116]) = true := (eq_word (w := tx) (a := wHost) (by decide +kernel)).trans (decide_eq_true h8)
             have HR : Aside0 (R = atomT tx id (takeP T e 2 (p + 1))) := ⟨by rw [HRT.out]; exact atomR_str (.inl h8)⟩
             clear h8 HRT
             exact sc_str
            ·have t8 : (tx.toList == [104, 111, 115, 116]) = false := (eq_word (w := tx) (a := wHost) (by decide +kernel)).trans (decide_eq_false h8)
             by_cases h9 : tx = wPath
             ·have t9 : (tx.toList == [112, 97, 116, 104]) = true := (eq_word (w := tx) (a := wPath) (by decide +kernel)).trans (decide_eq_true h9)
              have HR : Aside0 (R = atomT tx id (takeP T e 2 (p + 1))) := ⟨by rw [HRT.out]; exact atomR_str (.inr h9)⟩
              clear h9 HRT
              exact sc_str
             ·have t9 : (tx.toList == [112, 97, 116, 104]) = false := (eq_word (w := tx) (a := wPath) (by decide +kernel)).trans (decide_eq_false h9)
              have HR : Aside0 (R = .error (8, (nxt T e p).f1)) := ⟨by rw [HRT.out, atomR_none (by simp only [List.mem_cons, List.mem_nil_iff, or_false, not_or]; exact ⟨h0, h1, h2, h3, h4, h5, h6, h7, h8, h9⟩)]⟩
              go_wp2_with fail
              refine (r_wrong (T := T) (e := e) p 8 HA5.out.i HA5.out.b).mono ?_
              rintro ed w6 ⟨rfl, hs⟩
              dsimp only
              have HA6 := Aside0.mk (HA5.out.step hs)
              have HX6 : Aside0 (w6.heap[gr]? = some (.cells #[.int .i64 0, .string ⟨#[]⟩, .string ⟨#[]⟩, .slice none 0 0] 39 (0, 0))) := ⟨blk_keep HX5.out hs.2.2 HG.out.1⟩
              clear hs HA5 HX5
              go_wp2_with (refine wpList_store_row rfl 39 _ _ rfl gr (cdcells ⟨0, ⟨⟨#[]⟩, ⟨#[]⟩⟩, []⟩ (.slice none 0 0)) rfl rfl 39 _ HX6.out size_cd rfl (cd_one _ _ rfl) ?_)
              exact sAt6_5
   ·have l6 : (k0 == (1 : Int)) = false := by simp [hk0]
    have HRT : Aside0 (R = atomR T e p ⟨#[]⟩) := ⟨HRX.out ⟨#[]⟩ (by rw [if_neg hk0])⟩
    have HR : Aside0 (R = .error (8, (nxt T e p).f1)) := ⟨by rw [HRT.out, atomR_none empty_no]⟩
    clear hk0 HRX HR0
    go_wp2_with fail
    refine (r_wrong (T := T) (e := e) p 8 HA4.out.i HA4.out.b).mono ?_
    rintro ed w6 ⟨rfl, hs⟩
    dsimp only
    have HA6 := Aside0.mk (HA4.out.step hs)
    have HX6 : Aside0 (w6.heap[gr]? = some (.cells #[.int .i64 0, .string ⟨#[]⟩, .string ⟨#[]⟩, .slice none 0 0] 39 (0, 0))) := ⟨blk_keep HX4.out hs.2.2 HG.out.1⟩
    clear hs HA4 HX4
    go_wp2_with (refine wpList_store_row rfl 39 _ _ rfl gr (cdcells ⟨0, ⟨⟨#[]⟩, ⟨#[]⟩⟩, []⟩ (.slice none 0 0)) rfl rfl 39 _ HX6.out size_cd rfl (cd_one _ _ rfl) ?_)
    exact sAt6_5
end Go.Proofs.YtdlahgamdigkhaaDoor.Pu
