/- bits.Text, bits.Same, SameBits of package meridianref1. -/
import Derived.Test.YtpkifhmnibepiaaDoorFmt16
import Derived.Test.YtpkifhmnibepiaaDoorTextR
import Derived.WalkLawsBesides
namespace Go.Proofs.YtpkifhmnibepiaaDoor
open Go.RowKit Ieee

theorem order_self (x : Nat) : FloatKind.f64.format.order x x = none ∨ FloatKind.f64.format.order x x = some .eq := by
  show Datum.order (double.read x) (double.read x) = none ∨ Datum.order (double.read x) (double.read x) = some .eq
  cases e : double.read x with
  | nan s f => exact Or.inl rfl
  | number s m p => exact Or.inr (by simp [Datum.order])
  | infinity s => exact Or.inr (by simp [Datum.order])
def nanB (x : Nat) : Bool := (FloatKind.f64.format.order x x).isNone
theorem nanB_t {x : Nat} (h : nanB x = true) : FloatKind.f64.format.order x x = none := Option.isNone_iff_eq_none.1 h
theorem nanB_f {x : Nat} (h : nanB x = false) : FloatKind.f64.format.order x x = some .eq := by
  rcases order_self x with e | e
  · unfold nanB at h; rw [e] at h; cases h
  · exact e
def sbB (a b : Nat) : Bool := if nanB a then nanB b else a == b
theorem sameR_any (a b : Nat) (w : World) :
    Calls Tryd.prog 25 #[.float .f64 a, .float .f64 b] w fun e w' => e = .returned (.bool (sbB a b)) ∧ Below w.heap.size w w' := by
  have h32 := @run_callFunc_extern Tryd.prog 77 _ Extern.MathFloatBits.float64bits Tryd.func77 (by kernel_rfl) (by kernel_rfl) (by kernel_rfl) (by kernel_rfl)
  have h33 : ∀ (v : Nat) (W : World), (Extern.MathFloatBits.float64bits #[.float .f64 v]).run Tryd.prog W = .ok (.int .u64 v) W := fun _ _ => rfl
  cases ha : nanB a with
  | true =>
    have h1 := nanB_t ha
    have hv : sbB a b = nanB b := by unfold sbB; rw [ha]; rfl
    rw [hv]
    clear hv ha
    cases hb : nanB b with
    | true =>
      have h2 := nanB_t hb
      clear hb
      go_enter Tryd.func25, Tryd.ntmps25
      go_wp2
      go_ret
      exact ⟨rfl, by go_grown⟩
    | false =>
      have h2 := nanB_f hb
      clear hb
      go_enter Tryd.func25, Tryd.ntmps25
      go_wp2
      go_ret
      exact ⟨rfl, by go_grown⟩
  | false =>
    have h1 := nanB_f ha
    have hv : sbB a b = (a == b) := by unfold sbB; rw [ha]; rfl
    rw [hv]
    clear hv ha
    by_cases c : a = b
    · subst c
      have e : (a == a) = true := by simp
      rw [e]
      clear e
      go_enter Tryd.func25, Tryd.ntmps25
      go_wp2
      go_ret
      exact ⟨rfl, by go_grown⟩
    · have e : (a == b) = false := by simpa using c
      have e2 : ((a : Int) == (b : Int)) = false := by rw [beq_eq_false_iff_ne]; omega
      rw [e]
      clear e
      go_enter Tryd.func25, Tryd.ntmps25
      go_wp2
      go_ret
      exact ⟨rfl, by go_grown⟩
theorem sameB_any (a b : Nat) (w : World) :
    Calls Tryd.prog 26 #[.float .f64 a, .float .f64 b] w fun e w' => e = .returned (.bool (sbB a b)) ∧ Below w.heap.size w w' := by
  have h32 := @run_callFunc_extern Tryd.prog 77 _ Extern.MathFloatBits.float64bits Tryd.func77 (by kernel_rfl) (by kernel_rfl) (by kernel_rfl) (by kernel_rfl)
  have h33 : ∀ (v : Nat) (W : World), (Extern.MathFloatBits.float64bits #[.float .f64 v]).run Tryd.prog W = .ok (.int .u64 v) W := fun _ _ => rfl
  by_cases c : a = b
  · subst c
    have hv : sbB a a = true := by
      unfold sbB
      cases h : nanB a <;> simp
    rw [hv]
    clear hv
    go_enter Tryd.func26, Tryd.ntmps26
    go_wp2
    go_ret
    exact ⟨rfl, by go_grown⟩
  · have e : (a == b) = false := by simpa using c
    have e2 : ((a : Int) == (b : Int)) = false := by rw [beq_eq_false_iff_ne]; omega
    have hv : sbB a b = (nanB a && nanB b) := by
      unfold sbB
      cases h : nanB a <;> simp [e]
    rw [hv]
    clear hv e c
    cases ha : nanB a with
    | false =>
      have h1 := nanB_f ha
      rw [Bool.false_and]
      clear ha
      go_enter Tryd.func26, Tryd.ntmps26
      go_wp2
      go_ret
      exact ⟨rfl, by go_grown⟩
    | true =>
      have h1 := nanB_t ha
      rw [Bool.true_and]
      clear ha
      cases hb : nanB b with
      | true =>
        have h2 := nanB_t hb
        clear hb
        go_enter Tryd.func26, Tryd.ntmps26
        go_wp2
        go_ret
        exact ⟨rfl, by go_grown⟩
      | false =>
        have h2 := nanB_f hb
        clear hb
        go_enter Tryd.func26, Tryd.ntmps26
        go_wp2
        go_ret
        exact ⟨rfl, by go_grown⟩
/-- The text. -/
def nanT : ByteArray := { data := #[55, 102, 102, 56, 48, 48, 48, 48, 48, 48, 48, 48, 48, 48, 48, 48] }
def txtV (x : Nat) : ByteArray := if nanB x then nanT else bs (hexL 16 x)
theorem bitsText_any (x : Nat) (hx : x < 18446744073709551616) (w : World) :
    Calls Tryd.prog 27 #[.float .f64 x] w fun e w' => e = .returned (.string (txtV x)) ∧ Below w.heap.size w w' := by
  cases ha : nanB x with
  | true =>
    have h1 := nanB_t ha
    have hv : txtV x = nanT := by unfold txtV; rw [ha]; rfl
    rw [hv]
    unfold nanT
    clear hv ha
    go_enter Tryd.func27, Tryd.ntmps27
    go_wp2
    go_ret
    exact ⟨rfl, by go_grown⟩
  | false =>
    have hv : txtV x = bs (hexL 16 x) := by unfold txtV; rw [ha]; rfl
    refine (bitsText_num x hx (nanB_f ha) w).mono ?_
    rintro e w1 ⟨d, he, hd, hb⟩
    exact ⟨by rw [he, hd.out, hv], hb⟩
def z16 : ByteArray := { data := #[48, 48, 48, 48, 48, 48, 48, 48, 48, 48, 48, 48, 48, 48, 48, 48] }
theorem z16_ext (L : Nat) (h : L ≤ 16) : z16.extract L 16 = bs (List.replicate (16 - L) 48) := by
  have : ∀ x : Fin 17, z16.extract x.1 16 = bs (List.replicate (16 - x.1) 48) := by decide +kernel
  exact this ⟨L, by omega⟩
theorem hexL_pad : ∀ r L n, n < 16 ^ L → hexL (r + L) n = List.replicate r 48 ++ hexL L n
  | 0, L, n, _ => by simp
  | r + 1, L, n, h => by
    have hp : 16 ^ L ≤ 16 ^ (r + L) := Nat.pow_le_pow_right (by decide) (by omega)
    rw [show r + 1 + L = r + L + 1 by omega, hexL_cons, hexL_pad r L n h, Nat.div_eq_of_lt (by omega), List.replicate_succ]
    rfl
theorem text_any (x : Nat) (hx : x < 18446744073709551616) (w : World) (hD : DB w) :
    Calls Tryd.prog 22 #[.float .f64 x] w fun e w' => e = .returned (.string (txtV x)) ∧ Below w.heap.size w w' := by
  have h32 := @run_callFunc_extern Tryd.prog 77 _ Extern.MathFloatBits.float64bits Tryd.func77 (by kernel_rfl) (by kernel_rfl) (by kernel_rfl) (by kernel_rfl)
  have h33 : ∀ (v : Nat) (W : World), (Extern.MathFloatBits.float64bits #[.float .f64 v]).run Tryd.prog W = .ok (.int .u64 v) W := fun _ _ => rfl
  cases ha : nanB x with
  | true =>
    have h1 := nanB_t ha
    have hv : txtV x = nanT := by unfold txtV; rw [ha]; rfl
    rw [hv]
    unfold nanT
    clear hv ha
    go_enter Tryd.func22, Tryd.ntmps22
    go_wp2
    go_ret
    exact ⟨rfl, by go_grown⟩
  | false =>
    have h1 := nanB_f ha
    have hv : txtV x = bs (hexL 16 x) := by unfold txtV; rw [ha]; rfl
    rw [hv]
    have H := Lib.hid (fun W h => fmt16_any x hx W h)
    have HD := Lib.hid hD
    clear hv ha hD
    have HP := Lib.hid (fun L (h : L ≤ 16) (h2 : x < 16 ^ L) => (by
      have := hexL_pad (16 - L) L x h2
      rw [show 16 - L + L = 16 by omega] at this
      rw [this, bs_append] : bs (List.replicate (16 - L) 48) ++ bs (hexL L x) = bs (hexL 16 x)))
    go_enter Tryd.func22, Tryd.ntmps22
    go_wp2_with fail
    refine (H.out _ HD.out).mono ?_; rintro e w1 ⟨d, L, rfl, HL, hb⟩
    have HB := Lib.hid hb
    obtain ⟨l1, l2, l3, l4⟩ := HL.out
    have hsz : d.size = L := by rw [l4, bs_size, hexL_length]
    have HR : Hid (z16.extract L 16 ++ d = bs (hexL 16 x)) := Lib.hid (by rw [z16_ext L l2, l4]; exact HP.out L l2 l3)
    clear l3 l4 hb H HD HL HP
    unfold z16 at HR
    go_wp2
    go_ret
    exact ⟨by first | rfl | (rw [HR.out]; rfl), HB.out⟩
end Go.Proofs.YtpkifhmnibepiaaDoor
