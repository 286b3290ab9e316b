/- LightOnce: what the entries are; the mutex's word, reckoned. -/
import Derived.Test.YtnlopklbbajlbaaSwK1
namespace Go.Proofs.Ytnlopklbbajlbaa.Sw
open Go Go.Conc Go.ConcN Go.RowKit
theorem x14_n : (Try.f14.name == "runtime.NumGoroutine") = false := by kernel_rfl
theorem x14_b : Try.f14.body.isNone = true := by kernel_rfl
theorem x14_x : Extern.findNext Try.f14 = none := by kernel_rfl
theorem x14_f : Extern.find Try.f14 = some (Extern.Race.marked .releaseMerge) := by kernel_rfl
theorem x15_n : (Try.f15.name == "runtime.NumGoroutine") = false := by kernel_rfl
theorem x15_b : Try.f15.body.isNone = true := by kernel_rfl
theorem x15_x : Extern.findNext Try.f15 = none := by kernel_rfl
theorem x15_f : Extern.find Try.f15 = some (fun _ => do mark .disable; pure Extern.Race.none_) := by kernel_rfl
theorem x16_n : (Try.f16.name == "runtime.NumGoroutine") = false := by kernel_rfl
theorem x16_b : Try.f16.body.isNone = true := by kernel_rfl
theorem x16_x : Extern.findNext Try.f16 = none := by kernel_rfl
theorem x16_f : Extern.find Try.f16 = some (fun _ => do mark .enable; pure Extern.Race.none_) := by kernel_rfl
theorem x17_n : (Try.f17.name == "runtime.NumGoroutine") = false := by kernel_rfl
theorem x17_b : Try.f17.body.isNone = true := by kernel_rfl
theorem x17_x : Extern.findNext Try.f17 = none := by kernel_rfl
theorem x17_f : Extern.find Try.f17 = some (fun _ => pure (.bool false)) := by kernel_rfl
theorem x22_n : (Try.f22.name == "runtime.NumGoroutine") = false := by kernel_rfl
theorem x22_b : Try.f22.body.isNone = true := by kernel_rfl
theorem x22_x : Extern.findNext Try.f22 = none := by kernel_rfl
theorem x22_f : Extern.find Try.f22 = some (Extern.Race.marked .read) := by kernel_rfl
theorem x26_n : (Try.f26.name == "runtime.NumGoroutine") = false := by kernel_rfl
theorem x26_b : Try.f26.body.isNone = true := by kernel_rfl
theorem x26_x : Extern.findNext Try.f26 = none := by kernel_rfl
theorem x26_f : Extern.find Try.f26 = some (Extern.Sync.semrelease) := by kernel_rfl
theorem x32_n : (Try.f32.name == "runtime.NumGoroutine") = false := by kernel_rfl
theorem x32_b : Try.f32.body.isNone = true := by kernel_rfl
theorem x32_x : Extern.findNext Try.f32 = none := by kernel_rfl
theorem x32_f : Extern.find Try.f32 = some (Extern.Race.marked .acquire) := by kernel_rfl
theorem x35_n : (Try.f35.name == "runtime.NumGoroutine") = false := by kernel_rfl
theorem x35_b : Try.f35.body.isNone = true := by kernel_rfl
theorem x35_x : Extern.findNext Try.f35 = none := by kernel_rfl
theorem x35_f : Extern.find Try.f35 = some (Extern.Race.marked .write) := by kernel_rfl
theorem x36_n : (Try.f36.name == "runtime.NumGoroutine") = false := by kernel_rfl
theorem x36_b : Try.f36.body.isNone = true := by kernel_rfl
theorem x36_x : Extern.findNext Try.f36 = none := by kernel_rfl
theorem x36_f : Extern.find Try.f36 = some (Extern.Sync.semacquire) := by kernel_rfl
theorem x37_n : (Try.f37.name == "runtime.NumGoroutine") = false := by kernel_rfl
theorem x37_b : Try.f37.body.isNone = true := by kernel_rfl
theorem x37_x : Extern.findNext Try.f37 = none := by kernel_rfl
theorem x37_f : Extern.find Try.f37 = some (Extern.Atomic.loadT (.int .i64)) := by kernel_rfl
theorem x39_n : (Try.f39.name == "runtime.NumGoroutine") = false := by kernel_rfl
theorem x39_b : Try.f39.body.isNone = true := by kernel_rfl
theorem x39_x : Extern.findNext Try.f39 = none := by kernel_rfl
theorem x39_f : Extern.find Try.f39 = some (Extern.Atomic.update (Op.intArith .add) .u64 true) := by kernel_rfl
theorem x40_n : (Try.f40.name == "runtime.NumGoroutine") = false := by kernel_rfl
theorem x40_b : Try.f40.body.isNone = true := by kernel_rfl
theorem x40_x : Extern.findNext Try.f40 = none := by kernel_rfl
theorem x40_f : Extern.find Try.f40 = some (Extern.Atomic.loadT (.int .u64)) := by kernel_rfl
theorem x41_n : (Try.f41.name == "runtime.NumGoroutine") = false := by kernel_rfl
theorem x41_b : Try.f41.body.isNone = true := by kernel_rfl
theorem x41_x : Extern.findNext Try.f41 = none := by kernel_rfl
theorem x41_f : Extern.find Try.f41 = some (Extern.Atomic.storeT) := by kernel_rfl
theorem x46_n : (Try.f46.name == "runtime.NumGoroutine") = false := by kernel_rfl
theorem x46_b : Try.f46.body.isNone = true := by kernel_rfl
theorem x46_x : Extern.findNext Try.f46 = none := by kernel_rfl
theorem x46_f : Extern.find Try.f46 = some (Extern.Atomic.update (Op.intArith .add) .i64 true) := by kernel_rfl
theorem x47_n : (Try.f47.name == "runtime.NumGoroutine") = false := by kernel_rfl
theorem x47_b : Try.f47.body.isNone = true := by kernel_rfl
theorem x47_x : Extern.findNext Try.f47 = none := by kernel_rfl
theorem x47_f : Extern.find Try.f47 = some (Extern.Atomic.casT (.int .u64)) := by kernel_rfl
theorem x48_n : (Try.f48.name == "runtime.NumGoroutine") = false := by kernel_rfl
theorem x48_b : Try.f48.body.isNone = true := by kernel_rfl
theorem x48_x : Extern.findNext Try.f48 = none := by kernel_rfl
theorem x48_f : Extern.find Try.f48 = some (Extern.Atomic.loadT (.int .u32)) := by kernel_rfl
theorem x50_n : (Try.f50.name == "runtime.NumGoroutine") = false := by kernel_rfl
theorem x50_b : Try.f50.body.isNone = true := by kernel_rfl
theorem x50_x : Extern.findNext Try.f50 = none := by kernel_rfl
theorem x50_f : Extern.find Try.f50 = some (Extern.Atomic.casT (.int .i32)) := by kernel_rfl
theorem x52_n : (Try.f52.name == "runtime.NumGoroutine") = false := by kernel_rfl
theorem x52_b : Try.f52.body.isNone = true := by kernel_rfl
theorem x52_x : Extern.findNext Try.f52 = none := by kernel_rfl
theorem x52_f : Extern.find Try.f52 = some (Extern.Atomic.update (Op.intArith .add) .i32 true) := by kernel_rfl
theorem x54_n : (Try.f54.name == "runtime.NumGoroutine") = false := by kernel_rfl
theorem x54_b : Try.f54.body.isNone = true := by kernel_rfl
theorem x54_x : Extern.findNext Try.f54 = none := by kernel_rfl
theorem x54_f : Extern.find Try.f54 = some (Extern.Atomic.storeT) := by kernel_rfl
theorem x56_n : (Try.f56.name == "runtime.NumGoroutine") = false := by kernel_rfl
theorem x56_b : Try.f56.body.isNone = true := by kernel_rfl
theorem x56_x : Extern.findNext Try.f56 = none := by kernel_rfl
theorem x56_f : Extern.find Try.f56 = some (Extern.Sync.canSpin) := by kernel_rfl
theorem x57_n : (Try.f57.name == "runtime.NumGoroutine") = false := by kernel_rfl
theorem x57_b : Try.f57.body.isNone = true := by kernel_rfl
theorem x57_x : Extern.findNext Try.f57 = none := by kernel_rfl
theorem x57_f : Extern.find Try.f57 = some (fun _ => pure (.tuple #[])) := by kernel_rfl
theorem x59_n : (Try.f59.name == "runtime.NumGoroutine") = false := by kernel_rfl
theorem x59_b : Try.f59.body.isNone = true := by kernel_rfl
theorem x59_x : Extern.findNext Try.f59 = none := by kernel_rfl
theorem x59_f : Extern.find Try.f59 = some (Extern.OsHooks.nano) := by kernel_rfl
theorem x60_n : (Try.f60.name == "runtime.NumGoroutine") = false := by kernel_rfl
theorem x60_b : Try.f60.body.isNone = true := by kernel_rfl
theorem x60_x : Extern.findNext Try.f60 = none := by kernel_rfl
theorem x60_f : Extern.find Try.f60 = some (Extern.Sync.semacquire) := by kernel_rfl
theorem x62_n : (Try.f62.name == "runtime.NumGoroutine") = false := by kernel_rfl
theorem x62_b : Try.f62.body.isNone = true := by kernel_rfl
theorem x62_x : Extern.findNext Try.f62 = none := by kernel_rfl
theorem x62_f : Extern.find Try.f62 = some (Extern.Sync.semrelease) := by kernel_rfl
theorem nm3 : (Try.f3.name == "runtime.NumGoroutine") = false := by kernel_rfl
theorem nm4 : (Try.f4.name == "runtime.NumGoroutine") = false := by kernel_rfl
theorem nm5 : (Try.f5.name == "runtime.NumGoroutine") = false := by kernel_rfl
theorem nm6 : (Try.f6.name == "runtime.NumGoroutine") = false := by kernel_rfl
theorem nm7 : (Try.f7.name == "runtime.NumGoroutine") = false := by kernel_rfl
theorem nm8 : (Try.f8.name == "runtime.NumGoroutine") = false := by kernel_rfl
theorem nm9 : (Try.f9.name == "runtime.NumGoroutine") = false := by kernel_rfl
theorem nm10 : (Try.f10.name == "runtime.NumGoroutine") = false := by kernel_rfl
theorem nm11 : (Try.f11.name == "runtime.NumGoroutine") = false := by kernel_rfl
theorem nm12 : (Try.f12.name == "runtime.NumGoroutine") = false := by kernel_rfl
theorem nm13 : (Try.f13.name == "runtime.NumGoroutine") = false := by kernel_rfl
theorem nm20 : (Try.f20.name == "runtime.NumGoroutine") = false := by kernel_rfl
theorem nm21 : (Try.f21.name == "runtime.NumGoroutine") = false := by kernel_rfl
theorem nm23 : (Try.f23.name == "runtime.NumGoroutine") = false := by kernel_rfl
theorem nm24 : (Try.f24.name == "runtime.NumGoroutine") = false := by kernel_rfl
theorem nm25 : (Try.f25.name == "runtime.NumGoroutine") = false := by kernel_rfl
theorem nm27 : (Try.f27.name == "runtime.NumGoroutine") = false := by kernel_rfl
theorem nm28 : (Try.f28.name == "runtime.NumGoroutine") = false := by kernel_rfl
theorem nm29 : (Try.f29.name == "runtime.NumGoroutine") = false := by kernel_rfl
theorem nm30 : (Try.f30.name == "runtime.NumGoroutine") = false := by kernel_rfl
theorem nm31 : (Try.f31.name == "runtime.NumGoroutine") = false := by kernel_rfl
theorem nm33 : (Try.f33.name == "runtime.NumGoroutine") = false := by kernel_rfl
theorem nm34 : (Try.f34.name == "runtime.NumGoroutine") = false := by kernel_rfl
theorem nm42 : (Try.f42.name == "runtime.NumGoroutine") = false := by kernel_rfl
theorem nm43 : (Try.f43.name == "runtime.NumGoroutine") = false := by kernel_rfl
theorem nm44 : (Try.f44.name == "runtime.NumGoroutine") = false := by kernel_rfl
theorem nm45 : (Try.f45.name == "runtime.NumGoroutine") = false := by kernel_rfl
theorem nm49 : (Try.f49.name == "runtime.NumGoroutine") = false := by kernel_rfl
theorem nm51 : (Try.f51.name == "runtime.NumGoroutine") = false := by kernel_rfl
theorem nm53 : (Try.f53.name == "runtime.NumGoroutine") = false := by kernel_rfl
theorem nm55 : (Try.f55.name == "runtime.NumGoroutine") = false := by kernel_rfl
theorem x59_q : Try.f59.norace = true := by kernel_rfl
theorem q44 : (Try.prog.funcs[(Go.Conc.base 44).fn]?).any (·.norace) = true := by kernel_rfl
theorem qD44 : (Try.prog.funcs[(baseD 44).fn]?).any (·.norace) = true := by kernel_rfl
theorem q45 : (Try.prog.funcs[(Go.Conc.base 45).fn]?).any (·.norace) = true := by kernel_rfl
theorem qD45 : (Try.prog.funcs[(baseD 45).fn]?).any (·.norace) = true := by kernel_rfl
theorem q51 : (Try.prog.funcs[(Go.Conc.base 51).fn]?).any (·.norace) = true := by kernel_rfl
theorem qD51 : (Try.prog.funcs[(baseD 51).fn]?).any (·.norace) = true := by kernel_rfl
theorem q53 : (Try.prog.funcs[(Go.Conc.base 53).fn]?).any (·.norace) = true := by kernel_rfl
theorem qD53 : (Try.prog.funcs[(baseD 53).fn]?).any (·.norace) = true := by kernel_rfl
theorem q29 : (Try.prog.funcs[(Go.Conc.base 29).fn]?).any (·.norace) = true := by kernel_rfl
theorem qD29 : (Try.prog.funcs[(baseD 29).fn]?).any (·.norace) = true := by kernel_rfl
theorem q30 : (Try.prog.funcs[(Go.Conc.base 30).fn]?).any (·.norace) = true := by kernel_rfl
theorem qD30 : (Try.prog.funcs[(baseD 30).fn]?).any (·.norace) = true := by kernel_rfl
theorem q27 : (Try.prog.funcs[(Go.Conc.base 27).fn]?).any (·.norace) = true := by kernel_rfl
theorem qD27 : (Try.prog.funcs[(baseD 27).fn]?).any (·.norace) = true := by kernel_rfl
theorem q43 : (Try.prog.funcs[(Go.Conc.base 43).fn]?).any (·.norace) = true := by kernel_rfl
theorem qD43 : (Try.prog.funcs[(baseD 43).fn]?).any (·.norace) = true := by kernel_rfl

section
variable {main : Bool} {b : Frame} {a : Act} {kk : List Item} {cs : List Frame} {w : World} {ops : Array Oper} {i : Nat} {rest : List Nat} {o : Oper}
/-- A PLAIN LOAD OF AN int32 IN A FUNCTION THAT IS 'norace': nothing reaches the trace. -/
theorem stepG_loadQ {x : Operand} (ho : ops[i]? = some o) (hw : Region.wanted o (yielded ops a.tmps) = true) (hk : b.kind ≠ .early) (hop : o.op = .load 21 x)
    {ad : Addr} {v : Int} (hx : a.eval x = .pointer (some ad)) (hc : w.cell? ad = some (.int .i32 v)) (hq : (Try.prog.funcs[b.fn]?).any (·.norace) = true) :
    stepG Try.prog main (G (b.at a (.inRegion ops (i :: rest) :: kk)) cs) w = .go (G (b.at (a.put o.dst (.int .i32 v)) (.inRegion ops rest :: kk)) cs) w #[] := by
  have hr : (execOp a.eval o).run Try.prog w = .ok (.value (.int .i32 v)) w := by
    unfold execOp
    simp only [hop, hx]
    simp [go_sem, hc]
  have he : (execOp a.eval o).events Try.prog w #[] = #[⟨.cell ad, false, false⟩] := by
    unfold execOp
    simp only [hop, hx]
    simp [go_sem, hc]
  rw [stepG_value ho hw hk hr]
  unfold listed
  rw [he, seen_def, hq]
  simp [seenStep]
end

/-! ### the word: bits -/
def eb (l k s : Bool) (n : Nat) : Int := ((l.toNat + 2 * k.toNat + 4 * s.toNat + 8 * n : Nat) : Int)
theorem enc_eb (w : MuW) : enc w = eb w.l w.k w.s w.n := rfl
set_option maxRecDepth 100000
theorem tb_and1 : ∀ (l k s : Bool) (n : Fin 64), bits .and .i32 (eb l k s n) 1 = l.toNat := by decide +kernel
theorem tb_and2 : ∀ (l k s : Bool) (n : Fin 64), bits .and .i32 (eb l k s n) 2 = 2 * k.toNat := by decide +kernel
theorem tb_and3 : ∀ (l k s : Bool) (n : Fin 64), bits .and .i32 (eb l k s n) 3 = l.toNat + 2 * k.toNat := by decide +kernel
theorem tb_and4 : ∀ (l k s : Bool) (n : Fin 64), bits .and .i32 (eb l k s n) 4 = 4 * s.toNat := by decide +kernel
theorem tb_and5 : ∀ (l k s : Bool) (n : Fin 64), bits .and .i32 (eb l k s n) 5 = l.toNat + 4 * s.toNat := by decide +kernel
theorem tb_and7 : ∀ (l k s : Bool) (n : Fin 64), bits .and .i32 (eb l k s n) 7 = l.toNat + 2 * k.toNat + 4 * s.toNat := by decide +kernel
theorem tb_or1 : ∀ (l k s : Bool) (n : Fin 64), bits .or .i32 (eb l k s n) 1 = eb true k s n := by decide +kernel
theorem tb_or2 : ∀ (l k s : Bool) (n : Fin 64), bits .or .i32 (eb l k s n) 2 = eb l true s n := by decide +kernel
theorem tb_or4 : ∀ (l k s : Bool) (n : Fin 64), bits .or .i32 (eb l k s n) 4 = eb l k true n := by decide +kernel
theorem tb_an2 : ∀ (l k s : Bool) (n : Fin 64), bits .andNot .i32 (eb l k s n) 2 = eb l false s n := by decide +kernel
section
theorem b_and1 (w : MuW) (h : w.n < 64) : bits .and .i32 (enc w) 1 = w.l.toNat := tb_and1 w.l w.k w.s ⟨w.n, h⟩
theorem b_and2 (w : MuW) (h : w.n < 64) : bits .and .i32 (enc w) 2 = 2 * w.k.toNat := tb_and2 w.l w.k w.s ⟨w.n, h⟩
theorem b_and3 (w : MuW) (h : w.n < 64) : bits .and .i32 (enc w) 3 = w.l.toNat + 2 * w.k.toNat := tb_and3 w.l w.k w.s ⟨w.n, h⟩
theorem b_and4 (w : MuW) (h : w.n < 64) : bits .and .i32 (enc w) 4 = 4 * w.s.toNat := tb_and4 w.l w.k w.s ⟨w.n, h⟩
theorem b_and5 (w : MuW) (h : w.n < 64) : bits .and .i32 (enc w) 5 = w.l.toNat + 4 * w.s.toNat := tb_and5 w.l w.k w.s ⟨w.n, h⟩
theorem b_and7 (w : MuW) (h : w.n < 64) : bits .and .i32 (enc w) 7 = w.l.toNat + 2 * w.k.toNat + 4 * w.s.toNat := tb_and7 w.l w.k w.s ⟨w.n, h⟩
theorem b_or1 (w : MuW) (h : w.n < 64) : bits .or .i32 (enc w) 1 = enc { w with l := true } := tb_or1 w.l w.k w.s ⟨w.n, h⟩
theorem b_or2 (w : MuW) (h : w.n < 64) : bits .or .i32 (enc w) 2 = enc { w with k := true } := tb_or2 w.l w.k w.s ⟨w.n, h⟩
theorem b_or4 (w : MuW) (h : w.n < 64) : bits .or .i32 (enc w) 4 = enc { w with s := true } := tb_or4 w.l w.k w.s ⟨w.n, h⟩
theorem b_an2 (w : MuW) (h : w.n < 64) : bits .andNot .i32 (enc w) 2 = enc { w with k := false } := tb_an2 w.l w.k w.s ⟨w.n, h⟩
theorem b_rng (w : MuW) (h : w.n < 64) : 0 ≤ enc w ∧ enc w < 1000 := by
  unfold enc
  have := w.l.toNat_le
  have := w.k.toNat_le
  have := w.s.toNat_le
  omega
end
theorem enc_inj {a b : MuW} (h : enc a = enc b) : a = b := by
  obtain ⟨l, k, s, n⟩ := a
  obtain ⟨l', k', s', n'⟩ := b
  simp only [enc] at h
  have h0 := Int.ofNat_inj.1 h
  have h1 := l.toNat_le
  have h2 := k.toNat_le
  have h3 := s.toNat_le
  have h4 := l'.toNat_le
  have h5 := k'.toNat_le
  have h6 := s'.toNat_le
  have e1 : l.toNat = l'.toNat := by omega
  have e2 : k.toNat = k'.toNat := by omega
  have e3 : s.toNat = s'.toNat := by omega
  have e4 : n = n' := by omega
  have f : ∀ x y : Bool, x.toNat = y.toNat → x = y := by decide
  rw [f _ _ e1, f _ _ e2, f _ _ e3, e4]
theorem enc_nil : enc MuW.nil = 0 := rfl
theorem enc_one : enc ⟨true, false, false, 0⟩ = 1 := rfl
theorem enc_ne {a b : MuW} (h : a ≠ b) : ¬ enc a = enc b := fun e => h (enc_inj e)
end Go.Proofs.Ytnlopklbbajlbaa.Sw
