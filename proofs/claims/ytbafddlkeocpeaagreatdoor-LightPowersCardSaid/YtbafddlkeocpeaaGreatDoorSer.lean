/- What the reference's SinCos computes, for every int: the same numbers as bits.Sin and bits.Cos. -/
import Derived.Test.YtbafddlkeocpeaaGreatDoorSin
namespace Go.Proofs.YtbafddlkeocpeaaGreatDoor
open Go.RowKit Fl

/-- Factorials, as numbers with a point. -/
def facF : Nat → Nat
  | 0 => one
  | n + 1 => fmul (facF n) (floatOfInt .f64 ((n + 1 : Nat) : Int))
/-- The k-th coefficient (from 0 on), as the reference makes it. -/
def serC (odd k : Nat) : Nat := fdiv one (if k % 2 = 0 then Op.negFloat .f64 (facF (2 * (k + 1) + odd)) else facF (2 * (k + 1) + odd))

theorem facF_one : facF 1 = one := by decide +kernel
theorem facF_num : ∀ n, n < 20 → isNum (facF n) = true := by decide +kernel
theorem int_num : ∀ n : Nat, n < 30 → isNum (floatOfInt .f64 (n : Int)) = true := by decide +kernel
theorem div_num : ∀ odd, odd < 2 → ∀ k, k < 8 → Ieee.double.div one (if k % 2 = 0 then Op.negFloat .f64 (facF (2 * (k + 1) + odd)) else facF (2 * (k + 1) + odd)) = some (serC odd k) := by decide +kernel
theorem ser_sin : ∀ k, k < 8 → serC 1 k = sinC k := by decide +kernel
theorem ser_cos : ∀ k, k < 8 → serC 0 k = cosC k := by decide +kernel

theorem run_fac (n : Nat) (hn : n < 19) (w : World) : (binOp .mul 28 (.float .f64 (facF n)) (.float .f64 (floatOfInt .f64 ((n : Int) + 1)))).run Tryz.prog w = .ok (.float .f64 (facF (n + 1))) w :=
  run_mul (facF_num n (by omega)) (int_num (n + 1) (by omega)) w
theorem Tryz.info29 : (Tryz.prog.info? 28).map (fun i => (i.zero, i.size, i.bytes)) = some (some (.float .f64 0), 1, 8) := by kernel_rfl

def serL (odd k : Nat) : List Value := (List.range k).map fun j => .float .f64 (serC odd j)
theorem serL_succ (odd k : Nat) : serL odd (k + 1) = serL odd k ++ [.float .f64 (serC odd k)] := by unfold serL; rw [List.range_succ, List.map_append]; rfl
theorem serL_len (odd k : Nat) : (serL odd k).length = k := by unfold serL; simp

theorem serL_at (odd k j : Nat) (h : j < k) : (serL odd k)[j]? = some (.float .f64 (serC odd j)) := by
  unfold serL; rw [List.getElem?_map, List.getElem?_range h]; rfl

theorem div_at (odd k : Nat) (ho : odd < 2) (hk : k < 8) (w : World) (hp : k % 2 = 0) : (binOp .quo 28 (.float .f64 one) (.float .f64 (Op.negFloat .f64 (facF (2 * (k + 1) + odd))))).run Tryz.prog w = .ok (.float .f64 (serC odd k)) w := by
  refine run_float_arith w .quo _ .f64 _ _ _ ?_
  have := div_num odd ho k hk
  rw [if_pos hp] at this
  exact this
theorem div_at' (odd k : Nat) (ho : odd < 2) (hk : k < 8) (w : World) (hp : ¬ k % 2 = 0) : (binOp .quo 28 (.float .f64 one) (.float .f64 (facF (2 * (k + 1) + odd)))).run Tryz.prog w = .ok (.float .f64 (serC odd k)) w := by
  refine run_float_arith w .quo _ .f64 _ _ _ ?_
  have := div_num odd ho k hk
  rw [if_neg hp] at this
  exact this

set_option maxHeartbeats 2000000 in
set_option maxRecDepth 20000 in
theorem series_any (z : Nat) (hz : Sz (5/8) z) (odd : Nat) (ho : odd < 2) (c : Nat → Nat) (hc : Halves c) (hsc : ∀ k, k < 8 → serC odd k = c k) (w : World) :
    Calls Tryz.prog 32 #[.float .f64 z, .int .i64 odd] w fun e w' => e = .returned (.float .f64 (fadd one (fmul z (hor c z 7)))) ∧ Below w.heap.size w w' := by
  obtain ⟨i0, hi, hz0, hz1, hz2⟩ := info_parts Tryz.info29
  have HS := Lib.hid hsc
  clear hsc
  have hf1 := facF_one
  unfold one at hf1
  go_enter Tryz.func32, Tryz.ntmps32
  go_wp2
  go_loopw [5, 6] (fun v i wr => ∃ k : Nat, k ≤ 8 ∧ i = .int .i64 ((k : Int) + 1) ∧ wr.ownsRow w.heap.size 28 1 v k (serL odd k) ∧ Below w.heap.size w wr) (fun _ i _ => 9 - (intOf i).toNat)
  case atStart => exact ⟨0, by omega, rfl, World.ownsRow_nil _ _ _ _, Below.refl _ _⟩
  case round =>
    obtain ⟨k, hk, rfl, hown, hnx⟩ := hrel
    by_cases hlt : k < 8
    · go_wp2
      obtain ⟨wo, rfl⟩ : ∃ wo : World, wo = wr := ⟨_, rfl⟩
      go_loop [7, 8] (fun f i => ∃ n : Nat, 1 ≤ n ∧ n ≤ 2 * (k + 1) + odd ∧ i = .int .i64 ((n : Int) + 1) ∧ f = .float .f64 (facF n)) (fun _ i => 30 - (intOf i).toNat)
      case atStart => exact ⟨1, by omega, by omega, rfl, by rw [hf1]⟩
      case round =>
        obtain ⟨n, h1, hn, rfl, rfl⟩ := hrel
        by_cases hn2 : n < 2 * (k + 1) + odd
        · have hm := fun W => run_fac n (by omega) W
          go_wp2
          go_round
          case rel => exact ⟨n + 1, by omega, by omega, by go_num, rfl⟩
          case measure => simp [intOf]; omega
        · have hne : n = 2 * (k + 1) + odd := by omega
          have hnx' := hnx.size
          by_cases hp : k % 2 = 0
          · have hpar : (((k : Int) + 1) % 2 == 1) = true := by simp; omega
            have hd := fun W => div_at odd k ho hlt W hp
            unfold one at hd
            rw [← hne] at hd
            have HNE := Lib.hid hne
            clear hne
            go_wp2_with (first
              | (at_builtin; refine wpList_append_own _ rfl _ _ 23 rfl w.heap.size 28 i0 (.float .f64 0) 1 8 Tryz.underlying23 hi hz0 hz1 hz2 rfl (by decide) _ _ _ rfl (hown.alloc _) ⟨wo.heap.size, 0, none⟩ 1 1 [.float .f64 (serC odd k)] rfl rfl ?c1 ?c2 ?c3 ?c4 ?c5 ?_))
            case c2 => rfl
            case c3 => unfold maxLen; omega
            case c4 => omega
            case c5 => first | omega | (simp; omega)
            intro v' w1 hown' hgrow _
            have hb1 := (hnx.alloc hnx' _).grown hgrow (by simp; omega) (fun j hj => (hown.lt j hj).1)
            clear hgrow
            go_wp2
            go_roundw
            case rel => exact ⟨k + 1, by omega, by go_num, by rw [serL_succ]; exact hown', hb1⟩
            case measure => simp [intOf]; omega
          · have hpar : (((k : Int) + 1) % 2 == 1) = false := by simp; omega
            have hd := fun W => div_at' odd k ho hlt W hp
            unfold one at hd
            rw [← hne] at hd
            have HNE := Lib.hid hne
            clear hne
            go_wp2_with (first
              | (at_builtin; refine wpList_append_own _ rfl _ _ 23 rfl w.heap.size 28 i0 (.float .f64 0) 1 8 Tryz.underlying23 hi hz0 hz1 hz2 rfl (by decide) _ _ _ rfl (hown.alloc _) ⟨wo.heap.size, 0, none⟩ 1 1 [.float .f64 (serC odd k)] rfl rfl ?d1 ?d2 ?d3 ?d4 ?d5 ?_))
            case d2 => rfl
            case d3 => unfold maxLen; omega
            case d4 => omega
            case d5 => first | omega | (simp; omega)
            intro v' w1 hown' hgrow _
            have hb1 := (hnx.alloc hnx' _).grown hgrow (by simp; omega) (fun j hj => (hown.lt j hj).1)
            clear hgrow
            go_wp2
            go_roundw
            case rel => exact ⟨k + 1, by omega, by go_num, by rw [serL_succ]; exact hown', hb1⟩
            case measure => simp [intOf]; omega
    · have hk8 : k = 8 := by omega
      subst hk8
      obtain ⟨g, cap, cur, rfl, hg, -, h8, hcm, -⟩ : ∃ g cap cur, u5 = .slice (some ⟨g, 0, none⟩) 8 cap ∧ w.heap.size ≤ g ∧ wr.heap[g]? = some (.cells cur 28 (0, 0)) ∧ 8 ≤ cap ∧ cap ≤ maxLen ∧ True := by
        rcases hown.2 with ⟨_, h⟩ | ⟨g, cap, cur, h1, h2, h3, h4, h5, _⟩
        · omega
        · exact ⟨g, cap, cur, h1, h2, h3, h4, h5, trivial⟩
      unfold maxLen at hcm
      have cells : ∀ j, j < 8 → wr.cell? ⟨g, j, none⟩ = some (.float .f64 (c j)) := by
        intro j hj
        have := hown.cells (g := g) rfl j _ (serL_at odd 8 j hj)
        rw [Addr.add_lit, Nat.zero_add] at this
        rw [this, HS.out j hj]
      have k0 := cells 0 (by omega)
      have k1 := cells 1 (by omega)
      have k2 := cells 2 (by omega)
      have k3 := cells 3 (by omega)
      have k4 := cells 4 (by omega)
      have k5 := cells 5 (by omega)
      have k6 := cells 6 (by omega)
      have k7 := cells 7 (by omega)
      have m0 := fun W => run_hor_mul hc hz 0 W
      have m1 := fun W => run_hor_mul hc hz 1 W
      have m2 := fun W => run_hor_mul hc hz 2 W
      have m3 := fun W => run_hor_mul hc hz 3 W
      have m4 := fun W => run_hor_mul hc hz 4 W
      have m5 := fun W => run_hor_mul hc hz 5 W
      have m6 := fun W => run_hor_mul hc hz 6 W
      have m7 := fun W => run_hor_mul hc hz 7 W
      have a0 := fun W => run_hor_add hc hz 0 W
      have a1 := fun W => run_hor_add hc hz 1 W
      have a2 := fun W => run_hor_add hc hz 2 W
      have a3 := fun W => run_hor_add hc hz 3 W
      have a4 := fun W => run_hor_add hc hz 4 W
      have a5 := fun W => run_hor_add hc hz 5 W
      have a6 := fun W => run_hor_add hc hz 6 W
      have a7 := fun W => run_add one_sz.1 (hor_sz hc hz 7).2.1 W
      have h0 : hor c z 0 = c 7 := rfl
      simp only [h0, Nat.zero_add, Nat.reduceAdd, Nat.reduceSub] at m0 a0 a1 a2 a3 a4 a5 a6
      unfold one at a7
      clear h0 cells hown HS hf1 hlt
      go_wp2
      refine wp_loop_rounds 8 ?_
      iterate 8 (rw [rounds_succ]; go_wp2)
      go_ret
      exact ⟨rfl, hnx⟩

theorem ret_two {a b c d : Nat} (h : a = b) (g : c = d) : Ending.returned (.tuple #[.float .f64 b, .float .f64 d]) = .returned (.tuple #[.float .f64 a, .float .f64 c]) := by rw [h, g]

set_option maxHeartbeats 1000000 in
theorem sinCos_any (a : Int) (ha : In64 a) (w : World) :
    Calls Tryz.prog 17 #[.int .i64 a] w fun e w' => e = .returned (.tuple #[.float .f64 (sinV a), .float .f64 (cosV a)]) ∧ Below w.heap.size w w' := by
  have b1 : 0 ≤ nrmT a ∧ nrmT a < 1296000000000 := by unfold nrmT; omega
  have b2 := qq_bd a
  have b3 := rr_bd a
  have hz := zz_sz a
  have hx : Sz 1 (xx a) := (xx_sz a).mono (by decide +kernel)
  have m1 := fun W => run_mul (rr_num a) rad_sz.1 W
  have m2 := fun W => run_mul (xx_sz a).1 (xx_sz a).1 W
  have e1 : fmul (floatOfInt .f64 (rr a)) rad = xx a := rfl
  have e2 : fmul (xx a) (xx a) = zz a := rfl
  rw [e1] at m1
  rw [e2] at m2
  have m3 := fun W => run_mul hx.1 (top_sz sin_halves hz).1 W
  have e3 : fmul (xx a) (fadd one (fmul (zz a) (hor sinC (zz a) 7))) = sinP (xx a) (zz a) := rfl
  rw [e3] at m3
  clear e1 e2 e3
  unfold rad at m1
  have hr : rr a = nrmT a - qq a * 324000000000 := rfl
  have HR := Lib.hid hr
  clear hr
  have S1 := fun W => series_any (zz a) hz 1 (by omega) sinC sin_halves ser_sin W
  have S0 := fun W => series_any (zz a) hz 0 (by omega) cosC cos_halves ser_cos W
  have SS := Lib.hid S1
  have SC := Lib.hid S0
  clear S1 S0
  have hV : (sinV a, cosV a) = if qq a % 4 = 0 then (sinP (xx a) (zz a), cosP (zz a)) else if qq a % 4 = 1 then (cosP (zz a), Op.negFloat .f64 (sinP (xx a) (zz a))) else if qq a % 4 = 2 then (Op.negFloat .f64 (sinP (xx a) (zz a)), Op.negFloat .f64 (cosP (zz a))) else (Op.negFloat .f64 (cosP (zz a)), sinP (xx a) (zz a)) := by
    unfold sinV cosV
    split <;> try rfl
    split <;> try rfl
    split <;> rfl
  generalize sinV a = vs at *
  generalize cosV a = vc at *
  have HV := Lib.hid hV
  clear hV
  go_enter Tryz.func17, Tryz.ntmps17
  go_wp2_with fail
  refine (normOfT_any _ _ ha).mono ?_; rintro e w' ⟨rfl, rfl⟩
  go_wp2
  go_loop [0, 4] (fun x q => ∃ n : Nat, (n : Int) ≤ qq a ∧ q = .int .i64 n ∧ x = .int .i64 (nrmT a - (n : Int) * 324000000000)) (fun _ q => 10 - (intOf q).toNat)
  case atStart => exact ⟨0, by omega, rfl, by simp⟩
  case round =>
    obtain ⟨n, hn, rfl, rfl⟩ := hrel
    by_cases hlt : (n : Int) < qq a
    · have hge : 162000000000 ≤ nrmT a - (n : Int) * 324000000000 := by
        have := HR.out; omega
      by_cases hg : 162000000000 < nrmT a - (n : Int) * 324000000000
      · go_wp2
        go_round
        case rel => exact ⟨n + 1, by omega, by go_num, by congr 1; omega⟩
        case measure => simp [intOf]; omega
      · have hq : (nrmT a - (n : Int) * 324000000000 == 162000000000) = true := by simp; omega
        go_wp2
        go_round
        case rel => exact ⟨n + 1, by omega, by go_num, by congr 1; omega⟩
        case measure => simp [intOf]; omega
    · have hq : qq a = (n : Int) := by omega
      have hrr : nrmT a - (n : Int) * 324000000000 = rr a := by rw [HR.out, hq]
      have hmod : qq a % 4 = (n : Int) % 4 := by rw [hq]
      have hlow : rr a < 162000000000 := by unfold rr qq; unfold nrmT; omega
      have hne : (rr a == 162000000000) = false := by simp; omega
      have HM := Lib.hid hmod
      rw [hrr]
      clear hq hrr hmod hlt
      go_wp2_with fail
      refine (SS.out _).mono ?_; rintro e w1 ⟨rfl, hb1⟩
      go_wp2_with fail
      refine (SC.out _).mono ?_; rintro e w2 ⟨rfl, hb2⟩
      have hb : Below w.heap.size w w2 := hb1.trans (hb2.mono hb1.size)
      clear hb1 hb2
      by_cases c0 : (n : Int) % 4 = 0
      · have hv := HV.out
        rw [HM.out, if_pos c0, Prod.mk.injEq] at hv
        have HW := Lib.hid hv; clear hv
        go_wp2
        go_ret2
        exact ⟨ret_two HW.out.1 HW.out.2, hb⟩
      · by_cases c1 : (n : Int) % 4 = 1
        · have hv := HV.out
          rw [HM.out, if_neg c0, if_pos c1, Prod.mk.injEq] at hv
          have HW := Lib.hid hv; clear hv
          go_wp2
          go_ret2
          exact ⟨ret_two HW.out.1 HW.out.2, hb⟩
        · by_cases c2 : (n : Int) % 4 = 2
          · have hv := HV.out
            rw [HM.out, if_neg c0, if_neg c1, if_pos c2, Prod.mk.injEq] at hv
            have HW := Lib.hid hv; clear hv
            go_wp2
            go_ret2
            exact ⟨ret_two HW.out.1 HW.out.2, hb⟩
          · have c3 : (n : Int) % 4 = 3 := by omega
            have hv := HV.out
            rw [HM.out, if_neg c0, if_neg c1, if_neg c2, Prod.mk.injEq] at hv
            have HW := Lib.hid hv; clear hv c0 c1 c2
            go_wp2
            go_ret2
            exact ⟨ret_two HW.out.1 HW.out.2, hb⟩

@[go_sem] theorem run_float64bits {P : Program} {w : World} (x : Nat) : (Extern.MathFloatBits.float64bits #[.float .f64 x]).run P w = .ok (.int .u64 x) w := rfl

theorem same_self {x : Nat} (hx : isNum x = true) (w : World) :
    Calls Tryz.prog 7 #[.float .f64 x, .float .f64 x] w fun e w' => e = .returned (.bool true) ∧ w = w' := by
  have ho : FloatKind.f64.format.order x x = some .eq := order_self hx
  have h32 := @run_callFunc_extern Tryz.prog 16 _ Extern.MathFloatBits.float64bits Tryz.func16 (by kernel_rfl) (by kernel_rfl) (by kernel_rfl) (by kernel_rfl)
  go_enter Tryz.func7, Tryz.ntmps7
  go_wp2
  go_ret
  exact ⟨rfl, rfl⟩
end Go.Proofs.YtbafddlkeocpeaaGreatDoor
