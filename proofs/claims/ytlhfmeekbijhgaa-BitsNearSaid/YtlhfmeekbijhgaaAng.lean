/- What bits.Angle and its reference compute, for every two numbers. -/
import Derived.Test.YtlhfmeekbijhgaaSer
import Derived.Test.YtlhfmeekbijhgaaAngP
import Derived.Deep.Draws
namespace Go.Proofs.Ytlhfmeekbijhgaa
open Go.RowKit Fl

theorem float_lt {x : Nat} (h : (Lit.float .f64 x).wf = true) : x < 18446744073709551616 := by simpa [Lit.wf] using h

/-- What the machine makes of an operation that has no answer: some NaN. -/
def nanOf (w : World) (x y : Nat) : Nat := (Question.nanBits .f64 x y).cut (w.tape w.drawn (.nanBits .f64 x y))
theorem run_float_nan (op : BinOp) (hop : op = .add ∨ op = .sub ∨ op = .mul ∨ op = .quo) (t : TypeId) (x y : Nat) (h : floatBits op .f64 x y = none) (w : World) :
    (binOp op t (.float .f64 x) (.float .f64 y)).run Try.prog w = .ok (.float .f64 (nanOf w x y)) w.drew := by
  unfold floatBits at h
  rcases hop with rfl | rfl | rfl | rfl <;> simp only at h <;> simp [binOp, Op.floatArith, h, nanOf, Question.forced]
theorem nan_read (w : World) (x y : Nat) : ∃ b f, Ieee.double.read (nanOf w x y) = .nan b f := by
  unfold nanOf Question.cut
  simp only
  generalize w.tape w.drawn (.nanBits .f64 x y) = t
  have hs : Ieee.double.signWeight = 9223372036854775808 := rfl
  have hb : Ieee.double.binade = 4503599627370496 := rfl
  have hi : Ieee.double.infRung = 9218868437227405312 := rfl
  have e : (t % 2 * 2 ^ 63 + 0x7ff0000000000000 + 1 + t / 2 % (2 ^ 52 - 1)) % 9223372036854775808 = 9218868437227405313 + t / 2 % (2 ^ 52 - 1) := by omega
  unfold Ieee.Format.read
  rw [hs, hb, hi]
  simp only
  rw [e, if_neg (by omega), if_neg (by omega), if_neg (by omega)]
  exact ⟨_, _, rfl⟩
theorem nan_order (w : World) (x y r : Nat) : Ieee.double.order (nanOf w x y) r = none := by
  obtain ⟨b, f, h⟩ := nan_read w x y
  unfold Ieee.Format.order
  rw [h]
  rfl

theorem sub_self {x : Nat} (hx : isNum x = true) : floatBits .sub .f64 x x = some 0 := by
  obtain ⟨s, m, p, e⟩ := num_of hx
  show Ieee.double.sub x x = some 0
  simp only [Ieee.Format.sub, e, Ieee.Datum.opposite, Ieee.Datum.sum, Option.map_some]
  have : Ieee.signed s m (p - min p p).toNat + Ieee.signed (!s) m (p - min p p).toNat = 0 := by
    unfold Ieee.signed; cases s <;> simp <;> omega
  rw [this]
  cases s <;> rfl
theorem sub_none {x : Nat} (hx : isNum x = false) : floatBits .sub .f64 x x = none := by
  show Ieee.double.sub x x = none
  unfold isNum at hx
  simp only [Ieee.Format.sub]
  cases h : Ieee.double.read x with
  | number s m p => rw [h] at hx; cases hx
  | infinity s => cases s <;> rfl
  | nan s f => rfl

theorem finite_any (x : Nat) (w : World) :
    Calls Try.prog 35 #[.float .f64 x] w fun e w' => e = .returned (.bool (isNum x)) ∧ ∃ n, w' = w.drewN n := by
  have hz : FloatKind.f64.format.order 0 0 = some .eq := by decide +kernel
  cases hx : isNum x with
  | true =>
    have h := fun W => run_float_arith (P := Try.prog) W .sub 29 .f64 x x 0 (sub_self hx)
    go_enter Try.func35, Try.ntmps35
    go_wp2
    go_ret
    exact ⟨rfl, 0, rfl⟩
  | false =>
    have h := run_float_nan .sub (Or.inr (Or.inl rfl)) 29 x x (sub_none hx)
    have ho : FloatKind.f64.format.order (nanOf w x x) 0 = none := nan_order w x x 0
    go_enter Try.func35, Try.ntmps35
    go_wp2
    go_ret
    exact ⟨rfl, 1, rfl⟩

theorem finiteR_any (x : Nat) (w : World) :
    Calls Try.prog 37 #[.float .f64 x] w fun e w' => e = .returned (.bool (isNum x)) ∧ ∃ n, w' = w.drewN n := by
  have hz : FloatKind.f64.format.order 0 0 = some .eq := by decide +kernel
  cases hx : isNum x with
  | true =>
    have h := fun W => run_float_arith (P := Try.prog) W .sub 29 .f64 x x 0 (sub_self hx)
    go_enter Try.func37, Try.ntmps37
    go_wp2
    go_ret
    exact ⟨rfl, 0, rfl⟩
  | false =>
    have h := run_float_nan .sub (Or.inr (Or.inl rfl)) 29 x x (sub_none hx)
    have ho : FloatKind.f64.format.order (nanOf w x x) 0 = none := nan_order w x x 0
    go_enter Try.func37, Try.ntmps37
    go_wp2
    go_ret
    exact ⟨rfl, 1, rfl⟩

@[go_sem] theorem run_float64frombits {P : Program} {w : World} (x : Int) : (Extern.MathFloatBits.float64frombits #[.int .u64 x]).run P w = .ok (.float .f64 x.toNat) w := rfl

theorem abs_bits (x : Nat) (hx : x < 18446744073709551616) : bits BinOp.andNot IntKind.u64 (x : Int) 9223372036854775808 = ((absF x : Nat) : Int) := by
  have := u64_andNot_nat x 9223372036854775808 hx (by omega)
  have e : ((9223372036854775808 : Nat) : Int) = 9223372036854775808 := rfl
  rw [e] at this
  rw [this]
  have h : x &&& (18446744073709551615 - 9223372036854775808) = x % 2 ^ 63 := Nat.and_two_pow_sub_one_eq_mod x 63
  rw [h]
  rfl

theorem abs_any (x : Nat) (hx : x < 18446744073709551616) (w : World) :
    Calls Try.prog 36 #[.float .f64 x] w fun e w' => e = .returned (.float .f64 (absF x)) ∧ w = w' := by
  have h32 := @run_callFunc_extern Try.prog 32 _ Extern.MathFloatBits.float64bits Try.func32 (by kernel_rfl) (by kernel_rfl) (by kernel_rfl) (by kernel_rfl)
  have h38 := @run_callFunc_extern Try.prog 38 _ Extern.MathFloatBits.float64frombits Try.func38 (by kernel_rfl) (by kernel_rfl) (by kernel_rfl) (by kernel_rfl)
  have hb := abs_bits x hx
  go_enter Try.func36, Try.ntmps36
  go_wp2
  go_ret
  exact ⟨rfl, rfl⟩

theorem below_drewN {B : Nat} {w w' : World} (h : Below B w w') (n : Nat) : Below B w (w'.drewN n) := by
  induction n with
  | zero => exact h
  | succ n ih => exact ih.drew

theorem ge_of {x : Nat} (hx : isNum x = true) : (FloatKind.f64.format.order x 0 == some .gt || FloatKind.f64.format.order x 0 == some .eq) = !ltZ x := by
  have h := order_rv hx zero_num
  have e : FloatKind.f64.format.order x 0 = some (if rv x < rv 0 then .lt else if rv x = rv 0 then .eq else .gt) := h
  unfold ltZ
  have e' : Ieee.double.order x 0 = FloatKind.f64.format.order x 0 := rfl
  rw [e', e]
  split
  · rfl
  · split <;> rfl

theorem gt_of {x : Nat} (hx : isNum x = true) : (FloatKind.f64.format.order x 0 == some .gt) = (!ltZ x && !(FloatKind.f64.format.order x 0 == some .eq)) := by
  have h := order_rv hx zero_num
  have e : FloatKind.f64.format.order x 0 = some (if rv x < rv 0 then .lt else if rv x = rv 0 then .eq else .gt) := h
  unfold ltZ
  have e' : Ieee.double.order x 0 = FloatKind.f64.format.order x 0 := rfl
  rw [e', e]
  split
  · rfl
  · split <;> rfl

theorem lt_not_eq (x : Nat) : (ltZ x && (FloatKind.f64.format.order x 0 == some .eq)) = false := by
  unfold ltZ
  have e' : Ieee.double.order x 0 = FloatKind.f64.format.order x 0 := rfl
  rw [e']
  cases FloatKind.f64.format.order x 0 with
  | none => rfl
  | some o => cases o <;> rfl

theorem ret_ang (p : Int × Bool) (a : Int) (b : Bool) (h : p = (a, b)) : Ending.returned (.tuple #[.int .i64 a, .bool b]) = .returned (.tuple #[.int .i64 p.1, .bool p.2]) := by rw [h]

theorem angle_no (y x : Nat) (w : World) (h : hasV y x = false) :
    Calls Try.prog 26 #[.float .f64 y, .float .f64 x] w fun e w' => e = .returned (.tuple #[.int .i64 (angF y x).1, .bool (angF y x).2]) ∧ Below w.heap.size w w' := by
  have ha : angF y x = (0, false) := by unfold angF; rw [h]; rfl
  have HA := Lib.hid ha
  clear ha
  unfold hasV eqZ at h
  cases hx : isNum x with
  | false =>
    go_enter Try.func26, Try.ntmps26
    go_wp2_with fail
    refine (finite_any _ _).mono ?_; rintro e w' ⟨rfl, n, rfl⟩
    rw [hx]
    go_wp2
    go_ret2
    exact ⟨ret_ang _ _ _ HA.out, below_drewN (Below.refl _ _) _⟩
  | true =>
    cases hy : isNum y with
    | false =>
      go_enter Try.func26, Try.ntmps26
      go_wp2_with fail
      refine (finite_any _ _).mono ?_; rintro e w' ⟨rfl, n, rfl⟩
      rw [hx]
      go_wp2_with fail
      refine (finite_any _ _).mono ?_; rintro e w' ⟨rfl, m, rfl⟩
      rw [hy]
      go_wp2
      go_ret2
      exact ⟨ret_ang _ _ _ HA.out, below_drewN (Below.refl _ _) _⟩
    | true =>
      rw [hx, hy] at h
      have h1 : (FloatKind.f64.format.order x 0 == some .eq) = true := by
        have e : FloatKind.f64.format.order x 0 = Ieee.double.order x 0 := rfl
        rw [e]; simp at h; simp [h.1]
      have h2 : (FloatKind.f64.format.order y 0 == some .eq) = true := by
        have e : FloatKind.f64.format.order y 0 = Ieee.double.order y 0 := rfl
        rw [e]; simp at h; simp [h.2]
      clear h
      go_enter Try.func26, Try.ntmps26
      go_wp2_with fail
      refine (finite_any _ _).mono ?_; rintro e w' ⟨rfl, n, rfl⟩
      rw [hx]
      go_wp2_with fail
      refine (finite_any _ _).mono ?_; rintro e w' ⟨rfl, m, rfl⟩
      rw [hy]
      go_wp2
      go_ret2
      exact ⟨ret_ang _ _ _ HA.out, below_drewN (Below.refl _ _) _⟩

theorem has_parts {y x : Nat} (h : hasV y x = true) : isNum x = true ∧ isNum y = true := by
  unfold hasV at h
  simp only [Bool.and_eq_true, Bool.not_eq_true'] at h
  exact h.1
theorem has_zero {y x : Nat} (h : hasV y x = true) : ((FloatKind.f64.format.order x 0 == some .eq) && (FloatKind.f64.format.order y 0 == some .eq)) = false := by
  unfold hasV at h
  simp only [Bool.and_eq_true, Bool.not_eq_true'] at h
  exact h.2

set_option maxHeartbeats 1000000 in
theorem angle_yes (y x : Nat) (w : World) (h : hasV y x = true) (bx bY : Bool) (hbx : (FloatKind.f64.format.order x 0 == some .eq) = bx) (hby : (FloatKind.f64.format.order y 0 == some .eq) = bY) (hne : (bx && bY) = false) (hxw : x < 18446744073709551616) (hyw : y < 18446744073709551616) :
    Calls Try.prog 26 #[.float .f64 y, .float .f64 x] w fun e w' => e = .returned (.tuple #[.int .i64 (angF y x).1, .bool (angF y x).2]) ∧ Below w.heap.size w w' := by
  have ha : angF y x = (angV y x, true) := by unfold angF; rw [h]; rfl
  obtain ⟨hx, hy⟩ := has_parts h
  have gx := gt_of hx
  have gy := gt_of hy
  rw [hbx] at gx
  rw [hby] at gy
  have ex := lt_not_eq x
  have ey := lt_not_eq y
  rw [hbx] at ex
  rw [hby] at ey
  have EX := Lib.hid ex
  have EY := Lib.hid ey
  clear ex ey
  have GX := Lib.hid gx
  have GY := Lib.hid gy
  have HA := Lib.hid ha
  have ax := abs_num hx
  have ay := abs_num hy
  have AX := fun W => abs_any x hxw W
  have AY := fun W => abs_any y hyw W
  have HX := Lib.hid AX
  have HY := Lib.hid AY
  have hlo : loF y x = bisF (absF x) (absF y) 40 0 324000000001 := rfl
  have hbd := loF_bd y x
  generalize loF y x = L at hlo hbd
  have HL := Lib.hid hlo
  have hV : angV y x = if ltZ x then (if ltZ y then 648000000000 + L else 648000000000 - L) else (if ltZ y then nrmT (1296000000000 - L) else L) := by
    rw [hlo]; rfl
  have HV := Lib.hid hV
  clear gx gy ha AX AY hlo hV h
  generalize absF x = u at *
  generalize absF y = v at *
  cases bx <;> cases bY <;> try exact absurd hne (by decide)
  all_goals
    go_enter Try.func26, Try.ntmps26
    go_wp2_with fail
    refine (finite_any _ _).mono ?_; rintro e w' ⟨rfl, n, rfl⟩
    rw [hx]
    go_wp2_with fail
    refine (finite_any _ _).mono ?_; rintro e w' ⟨rfl, m, rfl⟩
    rw [hy]
    go_wp2_with fail
    refine (HX.out _).mono ?_; rintro e w' ⟨rfl, rfl⟩
    go_wp2_with fail
    refine (HY.out _).mono ?_; rintro e w' ⟨rfl, rfl⟩
    go_wp2
    go_loopw [8, 9] (fun lo hi wr => ∃ (n : Nat) (l h : Int), lo = .int .i64 l ∧ hi = .int .i64 h ∧ 0 ≤ l ∧ l < h ∧ h ≤ 324000000001 ∧ h - l ≤ 2 ^ n ∧ Hid (bisF u v n l h = bisF u v 40 0 324000000001) ∧ Below w.heap.size w wr) (fun lo hi _ => (intOf hi - intOf lo).toNat)
    case atStart => exact ⟨40, 0, 324000000001, rfl, rfl, by omega, by omega, by omega, by decide, rfl, below_drewN (Below.refl _ _) _⟩
    case round =>
      obtain ⟨n, l, h, rfl, rfl, h0, h1, h2, h3, hid, hb⟩ := hrel
      by_cases hlt : 1 < h - l
      · obtain ⟨k, rfl⟩ : ∃ k, n = k + 1 := by
          cases n with
          | zero => simp at h3; omega
          | succ k => exact ⟨k, rfl⟩
        have h3' : h - l ≤ 2 * 2 ^ k := by rw [Int.pow_succ] at h3; omega
        have hst := hid.out
        unfold bisF at hst
        rw [if_pos hlt] at hst
        have m1 := fun W => run_mul (sinV_sz ((l + h) / 2)).1 ax W
        have m2 := fun W => run_mul (cosV_sz ((l + h) / 2)).1 ay W
        cases hp : predB u v ((l + h) / 2) with
        | true =>
          rw [hp, if_pos rfl] at hst
          have hp' : (FloatKind.f64.format.order (fmul (sinV ((l + h) / 2)) u) (fmul (cosV ((l + h) / 2)) v) == some .lt || FloatKind.f64.format.order (fmul (sinV ((l + h) / 2)) u) (fmul (cosV ((l + h) / 2)) v) == some .eq) = true := hp
          have HS := Lib.hid hst
          clear hst hp hid h3
          go_wp2_with fail
          refine (sin_any _ ⟨by omega, by omega⟩ _).mono ?_; rintro e w1 ⟨rfl, hb1⟩
          go_wp2_with fail
          refine (cos_any _ ⟨by omega, by omega⟩ _).mono ?_; rintro e w2 ⟨rfl, hb2⟩
          go_wp2
          go_roundw
          case rel => exact ⟨k, _, _, rfl, rfl, by omega, by omega, by omega, by omega, HS.out, (hb.trans (hb1.mono hb.size)).trans (hb2.mono (Nat.le_trans hb.size hb1.size))⟩
          case measure => simp [intOf]; omega
        | false =>
          rw [hp, if_neg (by decide)] at hst
          have hp' : (FloatKind.f64.format.order (fmul (sinV ((l + h) / 2)) u) (fmul (cosV ((l + h) / 2)) v) == some .lt || FloatKind.f64.format.order (fmul (sinV ((l + h) / 2)) u) (fmul (cosV ((l + h) / 2)) v) == some .eq) = false := hp
          have HS := Lib.hid hst
          clear hst hp hid h3
          go_wp2_with fail
          refine (sin_any _ ⟨by omega, by omega⟩ _).mono ?_; rintro e w1 ⟨rfl, hb1⟩
          go_wp2_with fail
          refine (cos_any _ ⟨by omega, by omega⟩ _).mono ?_; rintro e w2 ⟨rfl, hb2⟩
          go_wp2
          go_roundw
          case rel => exact ⟨k, _, _, rfl, rfl, by omega, by omega, by omega, by omega, HS.out, (hb.trans (hb1.mono hb.size)).trans (hb2.mono (Nat.le_trans hb.size hb1.size))⟩
          case measure => simp [intOf]; omega
      · have hl : l = L := by
          have := hid.out
          rw [bisF_done _ _ _ _ _ hlt] at this
          rw [HL.out, this]
        rw [hl] at h0 h1 hlt ⊢
        have gx := GX.out
        have gy := GY.out
        have lx : (FloatKind.f64.format.order x 0 == some .lt) = ltZ x := rfl
        have hV := HV.out
        have hA := HA.out
        clear hl hid h3
        have ex := EX.out
        have ey := EY.out
        cases hlx : ltZ x <;> cases hly : ltZ y <;> rw [hlx] at ex <;> rw [hly] at ey <;> (first | exact absurd ex (by decide) | exact absurd ey (by decide) | skip)
        all_goals
          rw [hlx, hly] at hV
          rw [hlx] at gx lx
          rw [hly] at gy
          simp only [Bool.false_eq_true, if_false, if_true, Bool.not_true, Bool.not_false, Bool.and_true, Bool.and_false] at hV gx gy
          rw [hV] at hA
          have HW := Lib.hid hA
          clear hA hV hlx hly ex ey
          go_wp2_with (go_at_call 11; refine (normT_any _ _ ⟨by omega, by omega⟩).mono ?_; rintro e w' ⟨rfl, rfl⟩)
          go_ret2
          exact ⟨ret_ang _ _ _ HW.out, hb⟩

theorem angle_any (y x : Nat) (w : World) (hxw : x < 18446744073709551616) (hyw : y < 18446744073709551616) :
    Calls Try.prog 26 #[.float .f64 y, .float .f64 x] w fun e w' => e = .returned (.tuple #[.int .i64 (angF y x).1, .bool (angF y x).2]) ∧ Below w.heap.size w w' := by
  cases h : hasV y x with
  | false => exact angle_no y x w h
  | true => exact angle_yes y x w h _ _ rfl rfl (has_zero h) hxw hyw
theorem angleOf_no (y x : Nat) (w : World) (h : hasV y x = false) :
    Calls Try.prog 27 #[.float .f64 y, .float .f64 x] w fun e w' => e = .returned (.tuple #[.int .i64 (angF y x).1, .bool (angF y x).2]) ∧ Below w.heap.size w w' := by
  have ha : angF y x = (0, false) := by unfold angF; rw [h]; rfl
  have HA := Lib.hid ha
  clear ha
  unfold hasV eqZ at h
  cases hx : isNum x with
  | false =>
    go_enter Try.func27, Try.ntmps27
    go_wp2_with fail
    refine (finiteR_any _ _).mono ?_; rintro e w' ⟨rfl, n, rfl⟩
    rw [hx]
    go_wp2_with fail
    refine (finiteR_any _ _).mono ?_; rintro e w' ⟨rfl, m, rfl⟩
    go_wp2
    go_ret2
    exact ⟨ret_ang _ _ _ HA.out, below_drewN (Below.refl _ _) _⟩
  | true =>
    cases hy : isNum y with
    | false =>
      go_enter Try.func27, Try.ntmps27
      go_wp2_with fail
      refine (finiteR_any _ _).mono ?_; rintro e w' ⟨rfl, n, rfl⟩
      rw [hx]
      go_wp2_with fail
      refine (finiteR_any _ _).mono ?_; rintro e w' ⟨rfl, m, rfl⟩
      rw [hy]
      go_wp2
      go_ret2
      exact ⟨ret_ang _ _ _ HA.out, below_drewN (Below.refl _ _) _⟩
    | true =>
      rw [hx, hy] at h
      have h1 : (FloatKind.f64.format.order x 0 == some .eq) = true := by
        have e : FloatKind.f64.format.order x 0 = Ieee.double.order x 0 := rfl
        rw [e]; simp at h; simp [h.1]
      have h2 : (FloatKind.f64.format.order y 0 == some .eq) = true := by
        have e : FloatKind.f64.format.order y 0 = Ieee.double.order y 0 := rfl
        rw [e]; simp at h; simp [h.2]
      clear h
      go_enter Try.func27, Try.ntmps27
      go_wp2_with fail
      refine (finiteR_any _ _).mono ?_; rintro e w' ⟨rfl, n, rfl⟩
      rw [hx]
      go_wp2_with fail
      refine (finiteR_any _ _).mono ?_; rintro e w' ⟨rfl, m, rfl⟩
      rw [hy]
      go_wp2
      go_ret2
      exact ⟨ret_ang _ _ _ HA.out, below_drewN (Below.refl _ _) _⟩


theorem bisF_size {x y : Nat} (hx : isNum x = true) (hy : isNum y = true) (hxw : x < 18446744073709551616) (hyw : y < 18446744073709551616) (n : Nat) (lo hi : Int) :
    bisF (sizeR x) (sizeR y) n lo hi = bisF (absF x) (absF y) n lo hi := by
  induction n generalizing lo hi with
  | zero => rfl
  | succ n ih => unfold bisF; rw [predB_size hx hy hxw hyw, ih, ih]

set_option maxHeartbeats 2000000 in
theorem angleOf_yes (y x : Nat) (w : World) (h : hasV y x = true) (bx bY cx cY : Bool) (hbx : (FloatKind.f64.format.order x 0 == some .eq) = bx) (hby : (FloatKind.f64.format.order y 0 == some .eq) = bY) (hne : (bx && bY) = false)
    (hcx : (FloatKind.f64.format.order x 0 == some .lt) = cx) (hcy : (FloatKind.f64.format.order y 0 == some .lt) = cY) (hxw : x < 18446744073709551616) (hyw : y < 18446744073709551616) :
    Calls Try.prog 27 #[.float .f64 y, .float .f64 x] w fun e w' => e = .returned (.tuple #[.int .i64 (angF y x).1, .bool (angF y x).2]) ∧ Below w.heap.size w w' := by
  have ha : angF y x = (angV y x, true) := by unfold angF; rw [h]; rfl
  obtain ⟨hx, hy⟩ := has_parts h
  have ex := lt_not_eq x
  have ey := lt_not_eq y
  have lx : ltZ x = cx := hcx
  have ly : ltZ y = cY := hcy
  rw [hbx, lx] at ex
  rw [hby, ly] at ey
  have sx : sizeR x = if cx then Op.negFloat .f64 x else x := by unfold sizeR; rw [lx]
  have sy : sizeR y = if cY then Op.negFloat .f64 y else y := by unfold sizeR; rw [ly]
  have ax := size_num hx
  have ay := size_num hy
  have hlo : loF y x = bisF (sizeR x) (sizeR y) 40 0 324000000001 := by rw [bisF_size hx hy hxw hyw]; rfl
  have hbd := loF_bd y x
  have hV : angV y x = if cx then (if cY then 648000000000 + loF y x else 648000000000 - loF y x) else (if cY then nrmT (1296000000000 - loF y x) else loF y x) := by
    unfold angV; rw [lx, ly]
  rw [hV] at ha
  generalize loF y x = L at hlo hbd ha
  have HL := Lib.hid hlo
  have he : Ieee.double = FloatKind.f64.format := rfl
  have HE := Lib.hid he
  clear hlo hV h lx ly he
  cases bx <;> cases bY <;> cases cx <;> cases cY <;> (first | exact absurd hne (by decide) | exact absurd ex (by decide) | exact absurd ey (by decide) | skip)
  all_goals
    simp only [Bool.false_eq_true, if_false, if_true] at sx sy ha
    rw [sx] at ax
    rw [sy] at ay
    have SX := Lib.hid sx
    have SY := Lib.hid sy
    have HA := Lib.hid ha
    clear sx sy ha ex ey hne
    go_enter Try.func27, Try.ntmps27
    go_wp2_with fail
    refine (finiteR_any _ _).mono ?_; rintro e w' ⟨rfl, n, rfl⟩
    rw [hx]
    go_wp2_with fail
    refine (finiteR_any _ _).mono ?_; rintro e w' ⟨rfl, m, rfl⟩
    rw [hy]
    go_wp2
    go_loopw [10, 11] (fun lo hi wr => ∃ (n : Nat) (l h : Int), lo = .int .i64 l ∧ hi = .int .i64 h ∧ 0 ≤ l ∧ l < h ∧ h ≤ 324000000001 ∧ h - l ≤ 2 ^ n ∧ Hid (bisF (sizeR x) (sizeR y) n l h = bisF (sizeR x) (sizeR y) 40 0 324000000001) ∧ Below w.heap.size w wr) (fun lo hi _ => (intOf hi - intOf lo).toNat)
    case atStart => exact ⟨40, 0, 324000000001, rfl, rfl, by omega, by omega, by omega, by decide, rfl, below_drewN (Below.refl _ _) _⟩
    case round =>
      obtain ⟨n, l, h, rfl, rfl, h0, h1, h2, h3, hid, hb⟩ := hrel
      by_cases hlt : 1 < h - l
      · obtain ⟨k, rfl⟩ : ∃ k, n = k + 1 := by
          cases n with
          | zero => simp at h3; omega
          | succ k => exact ⟨k, rfl⟩
        have h3' : h - l ≤ 2 * 2 ^ k := by rw [Int.pow_succ] at h3; omega
        have hst := hid.out
        unfold bisF at hst
        rw [if_pos hlt] at hst
        have m1 := fun W => run_mul (sinV_sz ((l + h) / 2)).1 ax W
        have m2 := fun W => run_mul (cosV_sz ((l + h) / 2)).1 ay W
        cases hp : predB (sizeR x) (sizeR y) ((l + h) / 2) with
        | true =>
          rw [hp, if_pos rfl] at hst
          rw [SX.out, SY.out] at hp
          unfold predB leqB at hp
          rw [HE.out] at hp
          have HS := Lib.hid hst
          clear hst hid h3
          go_wp2_with fail
          refine (sinCos_any _ ⟨by omega, by omega⟩ _).mono ?_; rintro e w1 ⟨rfl, hb1⟩
          go_wp2
          go_roundw
          case rel => exact ⟨k, _, _, rfl, rfl, by omega, by omega, by omega, by omega, HS.out, hb.trans (hb1.mono hb.size)⟩
          case measure => simp [intOf]; omega
        | false =>
          rw [hp, if_neg (by decide)] at hst
          rw [SX.out, SY.out] at hp
          unfold predB leqB at hp
          rw [HE.out] at hp
          have HS := Lib.hid hst
          clear hst hid h3
          go_wp2_with fail
          refine (sinCos_any _ ⟨by omega, by omega⟩ _).mono ?_; rintro e w1 ⟨rfl, hb1⟩
          go_wp2
          go_roundw
          case rel => exact ⟨k, _, _, rfl, rfl, by omega, by omega, by omega, by omega, HS.out, hb.trans (hb1.mono hb.size)⟩
          case measure => simp [intOf]; omega
      · have hl : l = L := by
          have := hid.out
          rw [bisF_done _ _ _ _ _ hlt] at this
          rw [HL.out, this]
        rw [hl] at h0 h1 hlt ⊢
        clear hl hid h3
        go_wp2_with (go_at_call 13; refine (normOfT_any _ _ ⟨by omega, by omega⟩).mono ?_; rintro e w' ⟨rfl, rfl⟩)
        go_ret2
        exact ⟨ret_ang _ _ _ HA.out, hb⟩

theorem angleOf_any (y x : Nat) (w : World) (hxw : x < 18446744073709551616) (hyw : y < 18446744073709551616) :
    Calls Try.prog 27 #[.float .f64 y, .float .f64 x] w fun e w' => e = .returned (.tuple #[.int .i64 (angF y x).1, .bool (angF y x).2]) ∧ Below w.heap.size w w' := by
  cases h : hasV y x with
  | false => exact angleOf_no y x w h
  | true => exact angleOf_yes y x w h _ _ _ _ rfl rfl (has_zero h) rfl rfl hxw hyw
end Go.Proofs.Ytlhfmeekbijhgaa
