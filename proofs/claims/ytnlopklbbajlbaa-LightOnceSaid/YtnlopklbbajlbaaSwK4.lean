/- LightOnce: what the code asks of the mutex's word. -/
import Derived.Test.YtnlopklbbajlbaaSwK3
set_option maxRecDepth 100000
namespace Go.Proofs.Ytnlopklbbajlbaa.Sw
open Go Go.Conc Go.ConcN Go.RowKit
theorem td_i1 : ∀ (l k s : Bool) (n : Fin 64), (bits .and .i32 (IntKind.i32.wrap (eb l k s n + 1)) 1 == 0) = l := by decide +kernel
theorem td_51 : ∀ (l k s : Bool) (n : Fin 64), (bits .and .i32 (eb l k s n) 5 == 1) = (l && !s) := by decide +kernel
theorem td_5n : ∀ (l k s : Bool) (n : Fin 64), (bits .and .i32 (eb l k s n) 5 != 0) = (l || s) := by decide +kernel
theorem td_5e : ∀ (l k s : Bool) (n : Fin 64), (bits .and .i32 (eb l k s n) 5 == 0) = !(l || s) := by decide +kernel
theorem td_4e : ∀ (l k s : Bool) (n : Fin 64), (bits .and .i32 (eb l k s n) 4 == 0) = !s := by decide +kernel
theorem td_4n : ∀ (l k s : Bool) (n : Fin 64), (bits .and .i32 (eb l k s n) 4 != 0) = s := by decide +kernel
theorem td_2e : ∀ (l k s : Bool) (n : Fin 64), (bits .and .i32 (eb l k s n) 2 == 0) = !k := by decide +kernel
theorem td_1n : ∀ (l k s : Bool) (n : Fin 64), (bits .and .i32 (eb l k s n) 1 != 0) = l := by decide +kernel
theorem td_3n : ∀ (l k s : Bool) (n : Fin 64), (bits .and .i32 (eb l k s n) 3 != 0) = (l || k) := by decide +kernel
theorem td_7n : ∀ (l k s : Bool) (n : Fin 64), (bits .and .i32 (eb l k s n) 7 != 0) = (l || k || s) := by decide +kernel
theorem td_n0 : ∀ (l k s : Bool) (n : Fin 64), (eb l k s n != 0) = (l || k || s || decide (0 < n.val)) := by decide +kernel
theorem td_sh : ∀ (l k s : Bool) (n : Fin 64), (eb l k s n / 8 == 0) = decide (n.val = 0) := by decide +kernel
theorem td_shn : ∀ (l k s : Bool) (n : Fin 64), (eb l k s n / 8 != 0) = decide (0 < n.val) := by decide +kernel
theorem td_sh1 : ∀ (l k s : Bool) (n : Fin 64), (eb l k s n / 8 == 1) = decide (n.val = 1) := by decide +kernel
theorem td_dec : ∀ (l k s : Bool) (n : Fin 64), 0 < n.val → bits .or .i32 (IntKind.i32.wrap (eb l k s n - 8)) 2 = eb l true s (n.val - 1) := by decide +kernel
theorem td_ad7 : ∀ (n : Fin 64), 0 < n.val → IntKind.i32.wrap (eb false false true n + -7) = eb true false true (n.val - 1) := by decide +kernel
theorem td_ad11 : ∀ (n : Fin 64), 0 < n.val → IntKind.i32.wrap (eb false false true n + -11) = eb true false false (n.val - 1) := by decide +kernel
theorem td_p8 : ∀ (l k s : Bool) (n : Fin 64), IntKind.i32.wrap (eb l k s n + 8) = eb l k s (n.val + 1) := by decide +kernel
section
theorem d_ad7 (x : MuW) (h : x.n < 64) (h0 : 0 < x.n) (hl : x.l = false) (hk : x.k = false) (hs : x.s = true) : IntKind.i32.wrap (enc x + -7) = enc ⟨true, x.k, true, x.n - 1⟩ := by
  obtain ⟨l, k, s, n⟩ := x
  simp only at *
  subst hl hk hs
  exact td_ad7 ⟨n, h⟩ h0
theorem d_ad11 (x : MuW) (h : x.n < 64) (h0 : 0 < x.n) (hl : x.l = false) (hk : x.k = false) (hs : x.s = true) : IntKind.i32.wrap (enc x + -11) = enc ⟨true, x.k, false, x.n - 1⟩ := by
  obtain ⟨l, k, s, n⟩ := x
  simp only at *
  subst hl hk hs
  exact td_ad11 ⟨n, h⟩ h0
theorem d_p8 (x : MuW) (h : x.n < 64) : IntKind.i32.wrap (enc x + 8) = enc { x with n := x.n + 1 } := td_p8 x.l x.k x.s ⟨x.n, h⟩
theorem d_sh (x : MuW) (h : x.n < 64) : (enc x / 8 == 0) = decide (x.n = 0) := td_sh x.l x.k x.s ⟨x.n, h⟩
theorem d_shn (x : MuW) (h : x.n < 64) : (enc x / 8 != 0) = decide (0 < x.n) := td_shn x.l x.k x.s ⟨x.n, h⟩
theorem d_sh1 (x : MuW) (h : x.n < 64) : (enc x / 8 == 1) = decide (x.n = 1) := td_sh1 x.l x.k x.s ⟨x.n, h⟩
theorem d_dec (x : MuW) (h : x.n < 64) (h0 : 0 < x.n) : bits .or .i32 (IntKind.i32.wrap (enc x - 8)) 2 = enc { x with n := x.n - 1, k := true } := td_dec x.l x.k x.s ⟨x.n, h⟩ h0
theorem d_i1 (x : MuW) (h : x.n < 64) : (bits .and .i32 (IntKind.i32.wrap (enc x + 1)) 1 == 0) = x.l := td_i1 x.l x.k x.s ⟨x.n, h⟩
theorem d_51 (x : MuW) (h : x.n < 64) : (bits .and .i32 (enc x) 5 == 1) = (x.l && !x.s) := td_51 x.l x.k x.s ⟨x.n, h⟩
theorem d_5n (x : MuW) (h : x.n < 64) : (bits .and .i32 (enc x) 5 != 0) = (x.l || x.s) := td_5n x.l x.k x.s ⟨x.n, h⟩
theorem d_5e (x : MuW) (h : x.n < 64) : (bits .and .i32 (enc x) 5 == 0) = !(x.l || x.s) := td_5e x.l x.k x.s ⟨x.n, h⟩
theorem d_4e (x : MuW) (h : x.n < 64) : (bits .and .i32 (enc x) 4 == 0) = !x.s := td_4e x.l x.k x.s ⟨x.n, h⟩
theorem d_4n (x : MuW) (h : x.n < 64) : (bits .and .i32 (enc x) 4 != 0) = x.s := td_4n x.l x.k x.s ⟨x.n, h⟩
theorem d_2e (x : MuW) (h : x.n < 64) : (bits .and .i32 (enc x) 2 == 0) = !x.k := td_2e x.l x.k x.s ⟨x.n, h⟩
theorem d_1n (x : MuW) (h : x.n < 64) : (bits .and .i32 (enc x) 1 != 0) = x.l := td_1n x.l x.k x.s ⟨x.n, h⟩
theorem d_3n (x : MuW) (h : x.n < 64) : (bits .and .i32 (enc x) 3 != 0) = (x.l || x.k) := td_3n x.l x.k x.s ⟨x.n, h⟩
theorem d_7n (x : MuW) (h : x.n < 64) : (bits .and .i32 (enc x) 7 != 0) = (x.l || x.k || x.s) := td_7n x.l x.k x.s ⟨x.n, h⟩
theorem d_n0 (x : MuW) (h : x.n < 64) : (enc x != 0) = (x.l || x.k || x.s || decide (0 < x.n)) := td_n0 x.l x.k x.s ⟨x.n, h⟩
end
end Go.Proofs.Ytnlopklbbajlbaa.Sw
