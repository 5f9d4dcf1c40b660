/- The reference's tables, reckoned. -/
import Derived.Test.YtlonhkechpgbiaaSha2
namespace Go.Proofs.Ytlonhkechpgbiaa.Sh
open Go.RowKit Go.Proofs.Ytlonhkechpgbiaa.Pr Go.Proofs.YtlonhkechpgbiaaW.PrintWords Go.Proofs.YtlonhkechpgbiaaW.PrintLast Go.Proofs.YtlonhkechpgbiaaW.PrintMore
set_option maxRecDepth 100000
def primesL : List Int := [2, 3, 5, 7, 11, 13, 17, 19, 23, 29, 31, 37, 41, 43, 47, 53, 59, 61, 67, 71, 73, 79, 83, 89, 97, 101, 103, 107, 109, 113, 127, 131, 137, 139, 149, 151, 157, 163, 167, 173, 179, 181, 191, 193, 197, 199, 211, 223, 227, 229, 233, 239, 241, 251, 257, 263, 269, 271, 277, 281, 283, 293, 307, 311]
theorem primes_f : parapetref1_primes.f 20000 = some primesL := by decide +kernel
theorem r2_0 : parapetref1_root.f 300 2 2 = some 1779033703 := by decide +kernel
theorem r2_1 : parapetref1_root.f 300 3 2 = some 3144134277 := by decide +kernel
theorem r2_2 : parapetref1_root.f 300 5 2 = some 1013904242 := by decide +kernel
theorem r2_3 : parapetref1_root.f 300 7 2 = some 2773480762 := by decide +kernel
theorem r2_4 : parapetref1_root.f 300 11 2 = some 1359893119 := by decide +kernel
theorem r2_5 : parapetref1_root.f 300 13 2 = some 2600822924 := by decide +kernel
theorem r2_6 : parapetref1_root.f 300 17 2 = some 528734635 := by decide +kernel
theorem r2_7 : parapetref1_root.f 300 19 2 = some 1541459225 := by decide +kernel
theorem r3_0 : parapetref1_root.f 300 2 3 = some 1116352408 := by decide +kernel
theorem r3_1 : parapetref1_root.f 300 3 3 = some 1899447441 := by decide +kernel
theorem r3_2 : parapetref1_root.f 300 5 3 = some 3049323471 := by decide +kernel
theorem r3_3 : parapetref1_root.f 300 7 3 = some 3921009573 := by decide +kernel
theorem r3_4 : parapetref1_root.f 300 11 3 = some 961987163 := by decide +kernel
theorem r3_5 : parapetref1_root.f 300 13 3 = some 1508970993 := by decide +kernel
theorem r3_6 : parapetref1_root.f 300 17 3 = some 2453635748 := by decide +kernel
theorem r3_7 : parapetref1_root.f 300 19 3 = some 2870763221 := by decide +kernel
theorem r3_8 : parapetref1_root.f 300 23 3 = some 3624381080 := by decide +kernel
theorem r3_9 : parapetref1_root.f 300 29 3 = some 310598401 := by decide +kernel
theorem r3_10 : parapetref1_root.f 300 31 3 = some 607225278 := by decide +kernel
theorem r3_11 : parapetref1_root.f 300 37 3 = some 1426881987 := by decide +kernel
theorem r3_12 : parapetref1_root.f 300 41 3 = some 1925078388 := by decide +kernel
theorem r3_13 : parapetref1_root.f 300 43 3 = some 2162078206 := by decide +kernel
theorem r3_14 : parapetref1_root.f 300 47 3 = some 2614888103 := by decide +kernel
theorem r3_15 : parapetref1_root.f 300 53 3 = some 3248222580 := by decide +kernel
theorem r3_16 : parapetref1_root.f 300 59 3 = some 3835390401 := by decide +kernel
theorem r3_17 : parapetref1_root.f 300 61 3 = some 4022224774 := by decide +kernel
theorem r3_18 : parapetref1_root.f 300 67 3 = some 264347078 := by decide +kernel
theorem r3_19 : parapetref1_root.f 300 71 3 = some 604807628 := by decide +kernel
theorem r3_20 : parapetref1_root.f 300 73 3 = some 770255983 := by decide +kernel
theorem r3_21 : parapetref1_root.f 300 79 3 = some 1249150122 := by decide +kernel
theorem r3_22 : parapetref1_root.f 300 83 3 = some 1555081692 := by decide +kernel
theorem r3_23 : parapetref1_root.f 300 89 3 = some 1996064986 := by decide +kernel
theorem r3_24 : parapetref1_root.f 300 97 3 = some 2554220882 := by decide +kernel
theorem r3_25 : parapetref1_root.f 300 101 3 = some 2821834349 := by decide +kernel
theorem r3_26 : parapetref1_root.f 300 103 3 = some 2952996808 := by decide +kernel
theorem r3_27 : parapetref1_root.f 300 107 3 = some 3210313671 := by decide +kernel
theorem r3_28 : parapetref1_root.f 300 109 3 = some 3336571891 := by decide +kernel
theorem r3_29 : parapetref1_root.f 300 113 3 = some 3584528711 := by decide +kernel
theorem r3_30 : parapetref1_root.f 300 127 3 = some 113926993 := by decide +kernel
theorem r3_31 : parapetref1_root.f 300 131 3 = some 338241895 := by decide +kernel
theorem r3_32 : parapetref1_root.f 300 137 3 = some 666307205 := by decide +kernel
theorem r3_33 : parapetref1_root.f 300 139 3 = some 773529912 := by decide +kernel
theorem r3_34 : parapetref1_root.f 300 149 3 = some 1294757372 := by decide +kernel
theorem r3_35 : parapetref1_root.f 300 151 3 = some 1396182291 := by decide +kernel
theorem r3_36 : parapetref1_root.f 300 157 3 = some 1695183700 := by decide +kernel
theorem r3_37 : parapetref1_root.f 300 163 3 = some 1986661051 := by decide +kernel
theorem r3_38 : parapetref1_root.f 300 167 3 = some 2177026350 := by decide +kernel
theorem r3_39 : parapetref1_root.f 300 173 3 = some 2456956037 := by decide +kernel
theorem r3_40 : parapetref1_root.f 300 179 3 = some 2730485921 := by decide +kernel
theorem r3_41 : parapetref1_root.f 300 181 3 = some 2820302411 := by decide +kernel
theorem r3_42 : parapetref1_root.f 300 191 3 = some 3259730800 := by decide +kernel
theorem r3_43 : parapetref1_root.f 300 193 3 = some 3345764771 := by decide +kernel
theorem r3_44 : parapetref1_root.f 300 197 3 = some 3516065817 := by decide +kernel
theorem r3_45 : parapetref1_root.f 300 199 3 = some 3600352804 := by decide +kernel
theorem r3_46 : parapetref1_root.f 300 211 3 = some 4094571909 := by decide +kernel
theorem r3_47 : parapetref1_root.f 300 223 3 = some 275423344 := by decide +kernel
theorem r3_48 : parapetref1_root.f 300 227 3 = some 430227734 := by decide +kernel
theorem r3_49 : parapetref1_root.f 300 229 3 = some 506948616 := by decide +kernel
theorem r3_50 : parapetref1_root.f 300 233 3 = some 659060556 := by decide +kernel
theorem r3_51 : parapetref1_root.f 300 239 3 = some 883997877 := by decide +kernel
theorem r3_52 : parapetref1_root.f 300 241 3 = some 958139571 := by decide +kernel
theorem r3_53 : parapetref1_root.f 300 251 3 = some 1322822218 := by decide +kernel
theorem r3_54 : parapetref1_root.f 300 257 3 = some 1537002063 := by decide +kernel
theorem r3_55 : parapetref1_root.f 300 263 3 = some 1747873779 := by decide +kernel
theorem r3_56 : parapetref1_root.f 300 269 3 = some 1955562222 := by decide +kernel
theorem r3_57 : parapetref1_root.f 300 271 3 = some 2024104815 := by decide +kernel
theorem r3_58 : parapetref1_root.f 300 277 3 = some 2227730452 := by decide +kernel
theorem r3_59 : parapetref1_root.f 300 281 3 = some 2361852424 := by decide +kernel
theorem r3_60 : parapetref1_root.f 300 283 3 = some 2428436474 := by decide +kernel
theorem r3_61 : parapetref1_root.f 300 293 3 = some 2756734187 := by decide +kernel
theorem r3_62 : parapetref1_root.f 300 307 3 = some 3204031479 := by decide +kernel
theorem r3_63 : parapetref1_root.f 300 311 3 = some 3329325298 := by decide +kernel
theorem roots2 : ∀ i, i < 8 → parapetref1_root.f 300 (primesL.getD i 0) 2 = some (H0.getD i 0) := by
  intro i hi
  match i, hi with
  | 0, _ => exact r2_0
  | 1, _ => exact r2_1
  | 2, _ => exact r2_2
  | 3, _ => exact r2_3
  | 4, _ => exact r2_4
  | 5, _ => exact r2_5
  | 6, _ => exact r2_6
  | 7, _ => exact r2_7
theorem roots3L : (primesL.map fun p => parapetref1_root.f 300 p 3) = KT.map some := by
  simp only [primesL, KT, List.map_cons, List.map_nil, r3_0, r3_1, r3_2, r3_3, r3_4, r3_5, r3_6, r3_7, r3_8, r3_9, r3_10, r3_11, r3_12, r3_13, r3_14, r3_15, r3_16, r3_17, r3_18, r3_19, r3_20, r3_21, r3_22, r3_23, r3_24, r3_25, r3_26, r3_27, r3_28, r3_29, r3_30, r3_31, r3_32, r3_33, r3_34, r3_35, r3_36, r3_37, r3_38, r3_39, r3_40, r3_41, r3_42, r3_43, r3_44, r3_45, r3_46, r3_47, r3_48, r3_49, r3_50, r3_51, r3_52, r3_53, r3_54, r3_55, r3_56, r3_57, r3_58, r3_59, r3_60, r3_61, r3_62, r3_63]
theorem roots3 (i : Nat) (hi : i < 64) : parapetref1_root.f 300 (primesL.getD i 0) 3 = some (KT.getD i 0) := by
  have h := congrArg (fun l => l[i]?) roots3L
  simp only [List.getElem?_map] at h
  have h1 : i < primesL.length := hi
  have h2 : i < KT.length := hi
  rw [List.getElem?_eq_getElem h1, List.getElem?_eq_getElem h2, Option.map_some, Option.map_some] at h
  rw [List.getD_eq_getElem?_getD, List.getD_eq_getElem?_getD, List.getElem?_eq_getElem h1, List.getElem?_eq_getElem h2]
  exact Option.some.inj h
end Go.Proofs.Ytlonhkechpgbiaa.Sh
