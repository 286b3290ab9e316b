/- Tables of leap seconds: what tick.of and its kin compute. -/
import Derived.Test.YtjdjncfpcbeedaaDoorRows
import Derived.WalkKit
import Derived.Handy
import Derived.Lib.Hide
import Derived.Deep.QuietTactic
import Derived.BigQuiet
import Derived.WalkLawsBesides
import Derived.Deep.RegionHeld3
namespace Go.Proofs.YtjdjncfpcbeedaaDoor
open Go.RowKit

def In64 (a : Int) : Prop := -9223372036854775808 ≤ a ∧ a ≤ 9223372036854775807
theorem wf_in64 {a : Int} (h : (Lit.int .i64 a).wf = true) : In64 a := by
  unfold In64; simp [Lit.wf] at h; exact h

/-- A table of leap seconds: rows of a day and a number of seconds. -/
def Tab (w : World) (a : Option Addr) (len : Nat) (D A : Nat → Int) : Prop :=
  len = 0 ∨ ∃ b off, a = some ⟨b, off, none⟩ ∧ ∀ j, j < len → w.cell? ⟨b, off + j * 2, none⟩ = some (.int .i64 (D j)) ∧ w.cell? ⟨b, off + j * 2 + 1, none⟩ = some (.int .i64 (A j)) ∧ In64 (D j) ∧ In64 (A j)

theorem below_drewN {B : Nat} {w w' : World} (h : Below B w w') (n : Nat) : Below B w (w'.drewN n) := by
  induction n with
  | zero => exact h
  | succ n ih => exact ih.drew
theorem below_step {a b c : World} (h : Below a.heap.size a b) (k : Below b.heap.size b c) : Below a.heap.size a c := h.trans (k.mono h.size)
theorem cell_lt {w : World} {b o : Nat} {v : Value} (h : w.cell? ⟨b, o, none⟩ = some v) : b < w.heap.size := by
  rcases Nat.lt_or_ge b w.heap.size with g | g
  · exact g
  · simp [World.cell?, Array.getElem?_eq_none g] at h

theorem Tab.below {w w' : World} {a : Option Addr} {len : Nat} {D A : Nat → Int} (h : Tab w a len D A) (hb : Below w.heap.size w w') : Tab w' a len D A := by
  rcases h with h | ⟨b, off, e, hc⟩
  · exact Or.inl h
  · refine Or.inr ⟨b, off, e, fun j hj => ?_⟩
    obtain ⟨h1, h2, h3⟩ := hc j hj
    have hlt := cell_lt h1
    exact ⟨by rw [hb.cell (p := ⟨b, off + j * 2, none⟩) hlt]; exact h1, by rw [hb.cell (p := ⟨b, off + j * 2 + 1, none⟩) hlt]; exact h2, h3⟩

/-- How many seconds ahead, by the first k rows. -/
def ofTo (D A : Nat → Int) (day : Int) : Nat → Int
  | 0 => 0
  | k + 1 => if k = 0 ∨ D k ≤ day then A k else ofTo D A day k

theorem of_any (D A : Nat → Int) (day : Int) (a : Option Addr) (len cap : Nat) (hl : len ≤ 1000000) (w : World) (h : Tab w a len D A) :
    Calls Tryd.prog 102 #[.slice a len cap, .int .i64 day] w fun e w' => e = .returned (.int .i64 (ofTo D A day len)) ∧ Below w.heap.size w w' := by
  rcases h with rfl | ⟨b, off, rfl, hc⟩
  · go_enter Tryd.func102, Tryd.ntmps102
    go_wp2
    refine wp_loop_rounds 1 ?_
    rw [rounds_succ]
    go_wp2
    go_ret
    exact ⟨rfl, Below.refl _ _⟩
  · have HC := Lib.hid hc
    clear hc
    go_enter Tryd.func102, Tryd.ntmps102
    go_wp2
    go_loopw [5, 10] (fun n i wr => ∃ k : Nat, k ≤ len ∧ i = .int .i64 k ∧ n = .int .i64 (ofTo D A day k) ∧ Below w.heap.size w wr) (fun _ i _ => len - (intOf i).toNat)
    case atStart => exact ⟨0, Nat.zero_le _, rfl, rfl, Below.refl _ _⟩
    case round =>
      obtain ⟨k, hk, rfl, rfl, hb⟩ := hrel
      by_cases hlt : k < len
      · obtain ⟨h1, h2, h3, h4⟩ := HC.out k hlt
        have hbl := cell_lt h1
        have c1 : wr.cell? ⟨b, off + k * 2, none⟩ = some (.int .i64 (D k)) := by rw [hb.cell (p := ⟨b, off + k * 2, none⟩) hbl]; exact h1
        have c2 : wr.cell? ⟨b, off + k * 2 + 1, none⟩ = some (.int .i64 (A k)) := by rw [hb.cell (p := ⟨b, off + k * 2 + 1, none⟩) hbl]; exact h2
        clear h1 h2
        have hs := hb.size
        by_cases c0 : k = 0
        · have hk0 : ((k : Int) == 0) = true := by simp; omega
          have e : ofTo D A day (k + 1) = A k := by unfold ofTo; rw [if_pos (Or.inl c0)]
          have HE := Lib.hid e
          clear e c0
          go_wp2
          go_roundw
          case rel => exact ⟨k + 1, by omega, by go_num, by rw [HE.out], by go_grown⟩
          case measure => simp [intOf]; omega
        · have hk0 : ((k : Int) == 0) = false := by simp; omega
          by_cases cd : D k ≤ day
          · have e : ofTo D A day (k + 1) = A k := by unfold ofTo; rw [if_pos (Or.inr cd)]
            have HE := Lib.hid e
            clear e c0
            go_wp2
            go_roundw
            case rel => exact ⟨k + 1, by omega, by go_num, by rw [HE.out], by go_grown⟩
            case measure => simp [intOf]; omega
          · have e : ofTo D A day (k + 1) = ofTo D A day k := by rw [ofTo, if_neg (by omega)]
            have HE := Lib.hid e
            clear e c0
            go_wp2
            go_roundw
            case rel => exact ⟨k + 1, by omega, by go_num, by rw [HE.out], by go_grown⟩
            case measure => simp [intOf]; omega
      · have e : k = len := by omega
        subst e
        go_wp2
        go_ret
        exact ⟨rfl, hb⟩

/-- The rows' numbers are small. -/
def Small (A : Nat → Int) (len : Nat) : Prop := ∀ j, j < len → -1000 ≤ A j ∧ A j ≤ 1000
theorem ofTo_bd {D A : Nat → Int} {day : Int} {len : Nat} (h : Small A len) : -1000 ≤ ofTo D A day len ∧ ofTo D A day len ≤ 1000 := by
  induction len with
  | zero => unfold ofTo; omega
  | succ k ih =>
    have hk := h k (by omega)
    have := ih (fun j hj => h j (by omega))
    unfold ofTo
    split <;> omega

def startF (D A : Nat → Int) (len : Nat) (day : Int) : Int := day * 86400000000 + ofTo D A day len * 1000000
def lengthF (D A : Nat → Int) (len : Nat) (day : Int) : Int := 86400000000 + (ofTo D A (day + 1) len - ofTo D A day len) * 1000000

theorem start_any (D A : Nat → Int) (day : Int) (a : Option Addr) (len cap : Nat) (hl : len ≤ 1000000) (h1 : -10000000 ≤ day) (h2 : day ≤ 10000000) (hs : Small A len) (w : World) (h : Tab w a len D A) :
    Calls Tryd.prog 77 #[.slice a len cap, .int .i64 day] w fun e w' => e = .returned (.int .i64 (startF D A len day)) ∧ Below w.heap.size w w' := by
  have hb := ofTo_bd (D := D) (day := day) hs
  have e : startF D A len day = day * 86400000000 + ofTo D A day len * 1000000 := rfl
  rw [e]
  clear e hs
  go_enter Tryd.func77, Tryd.ntmps77
  go_wp2_with fail
  refine (of_any D A _ _ _ _ hl _ h).mono ?_; rintro e w1 ⟨rfl, hb1⟩
  go_wp2
  go_ret
  exact ⟨rfl, hb1⟩

theorem length_any (D A : Nat → Int) (day : Int) (a : Option Addr) (len cap : Nat) (hl : len ≤ 1000000) (h1 : -10000000 ≤ day) (h2 : day ≤ 10000000) (hs : Small A len) (w : World) (h : Tab w a len D A) :
    Calls Tryd.prog 78 #[.slice a len cap, .int .i64 day] w fun e w' => e = .returned (.int .i64 (lengthF D A len day)) ∧ Below w.heap.size w w' := by
  have hb := ofTo_bd (D := D) (day := day) hs
  have hc := ofTo_bd (D := D) (day := day + 1) hs
  have e : lengthF D A len day = 86400000000 + (ofTo D A (day + 1) len - ofTo D A day len) * 1000000 := rfl
  rw [e]
  clear e hs
  go_enter Tryd.func78, Tryd.ntmps78
  go_wp2_with fail
  refine (of_any D A _ _ _ _ hl _ h).mono ?_; rintro e w1 ⟨rfl, hb1⟩
  go_wp2_with fail
  refine (of_any D A _ _ _ _ hl _ (h.below hb1)).mono ?_; rintro e w2 ⟨rfl, hb2⟩
  go_wp2
  go_ret
  exact ⟨rfl, below_step hb1 hb2⟩

def goodB (t : Int) : Bool := decide (-300000000000000000 ≤ t ∧ t ≤ 300000000000000000)
theorem good_any (t : Int) (w : World) :
    Calls Tryd.prog 76 #[.int .i64 t] w fun e w' => e = .returned (.bool (goodB t)) ∧ w = w' := by
  by_cases h1 : t ≤ 300000000000000000
  · by_cases h2 : -300000000000000000 ≤ t
    · have e : goodB t = true := by unfold goodB; simp; omega
      rw [e]; clear e
      go_enter Tryd.func76, Tryd.ntmps76
      go_wp2
      go_ret
      exact ⟨rfl, rfl⟩
    · have e : goodB t = false := by unfold goodB; simp; omega
      rw [e]; clear e
      go_enter Tryd.func76, Tryd.ntmps76
      go_wp2
      go_ret
      exact ⟨rfl, rfl⟩
  · have e : goodB t = false := by unfold goodB; simp; omega
    rw [e]; clear e
    go_enter Tryd.func76, Tryd.ntmps76
    go_wp2
    go_ret
    exact ⟨rfl, rfl⟩

/-! ### the sentinels -/
def errG : Nat → Nat
  | 0 => 3
  | 1 => 1
  | 2 => 2
  | 3 => 4
  | 4 => 0
  | 5 => 5
  | 6 => 6
  | 7 => 7
  | 8 => 8
  | _ => 9
def errV (ad : Nat → Addr) (i : Nat) : Value := .iface 225 (.pointer (some (ad i)))
/-- The sentinels that matter lie in their variables. -/
def Errs (w : World) (ad : Nat → Addr) (which : List Nat) : Prop := ∀ i, i ∈ which → w.cell? ⟨errG i, 0, none⟩ = some (errV ad i)
theorem Errs.below {w w' : World} {ad : Nat → Addr} {l : List Nat} (h : Errs w ad l) (hb : Below w.heap.size w w') : Errs w' ad l := by
  intro i hi
  have h1 := h i hi
  rw [hb.cell (p := ⟨errG i, 0, none⟩) (cell_lt h1)]
  exact h1

/-- A row is right. -/
def rowOk (D A : Nat → Int) (i : Nat) : Prop := -4000000 ≤ D i ∧ D i ≤ 4000000 ∧ -1000 ≤ A i ∧ A i ≤ 1000 ∧ (0 < i → D (i - 1) + 2 ≤ D i ∧ (A i - A (i - 1) = 1 ∨ A i - A (i - 1) = -1))
def rowsOk (D A : Nat → Int) (len : Nat) : Prop := ∀ i, i < len → rowOk D A i

/-- What Valid answers. -/
def ValidR (ad : Nat → Addr) (D A : Nat → Int) (len : Nat) (v : Value) : Prop :=
  (60 < len ∧ v = errV ad 1) ∨ (len ≤ 60 ∧ ¬ rowsOk D A len ∧ v = errV ad 3) ∨ (len ≤ 60 ∧ rowsOk D A len ∧ v = .nilIface)

theorem valid_long (ad : Nat → Addr) (a : Option Addr) (len cap : Nat) (hl : 60 < len) (w : World) (he : Errs w ad [1, 2, 3]) :
    Calls Tryd.prog 55 #[.slice a len cap] w fun e w' => e = .returned (errV ad 1) ∧ Below w.heap.size w w' := by
  have g1 : w.cell? ⟨1, 0, none⟩ = some (.iface 225 (.pointer (some (ad 1)))) := he 1 (by decide)
  clear he
  go_enter Tryd.func55, Tryd.ntmps55
  go_wp2
  go_ret
  exact ⟨rfl, Below.refl _ _⟩

set_option maxHeartbeats 4000000 in
theorem valid_short (ad : Nat → Addr) (D A : Nat → Int) (b off len cap : Nat) (hl : len ≤ 60) (w : World) (he : Errs w ad [1, 2, 3])
    (hc : ∀ j, j < len → w.cell? ⟨b, off + j * 2, none⟩ = some (.int .i64 (D j)) ∧ w.cell? ⟨b, off + j * 2 + 1, none⟩ = some (.int .i64 (A j)) ∧ In64 (D j) ∧ In64 (A j)) :
    Calls Tryd.prog 55 #[.slice (some ⟨b, off, none⟩) len cap] w fun e w' => (∃ v, e = .returned v ∧ ValidR ad D A len v) ∧ Below w.heap.size w w' := by
  have g3 : w.cell? ⟨4, 0, none⟩ = some (.iface 225 (.pointer (some (ad 3)))) := he 3 (by decide)
  have hg := cell_lt g3
  clear he
  have HC := Lib.hid hc
  clear hc
  go_enter Tryd.func55, Tryd.ntmps55
  go_wp2
  go_loopw [12] (fun i wr => ∃ k : Nat, k ≤ len ∧ i = .int .i64 k ∧ Hid (rowsOk D A k) ∧ Below w.heap.size w wr) (fun i _ => len - (intOf i).toNat)
  case atStart => exact ⟨0, Nat.zero_le _, rfl, fun i hi => absurd hi (Nat.not_lt_zero _), Below.refl _ _⟩
  case round =>
    obtain ⟨k, hk, rfl, hok, hb⟩ := hrel
    have g3' : wr.cell? ⟨4, 0, none⟩ = some (.iface 225 (.pointer (some (ad 3)))) := by rw [hb.cell (p := ⟨4, 0, none⟩) hg]; exact g3
    have hs := hb.size
    by_cases hlt : k < len
    · obtain ⟨h1, h2, h3, h4⟩ := HC.out k hlt
      have hbl := cell_lt h1
      have c1 : wr.cell? ⟨b, off + k * 2, none⟩ = some (.int .i64 (D k)) := by rw [hb.cell (p := ⟨b, off + k * 2, none⟩) hbl]; exact h1
      have c2 : wr.cell? ⟨b, off + k * 2 + 1, none⟩ = some (.int .i64 (A k)) := by rw [hb.cell (p := ⟨b, off + k * 2 + 1, none⟩) hbl]; exact h2
      clear h1 h2 g3
      by_cases hr : -4000000 ≤ D k ∧ D k ≤ 4000000 ∧ -1000 ≤ A k ∧ A k ≤ 1000
      · obtain ⟨r1, r2, r3, r4⟩ := hr
        by_cases c0 : k = 0
        · have hz : rowOk D A k := ⟨r1, r2, r3, r4, fun h => absurd h (by omega)⟩
          have HZ := Lib.hid hz
          have C0 := Lib.hid c0
          have hk0 : ((k : Int) == 0) = true := by simp; omega
          clear hz c0
          go_wp2
          go_roundw
          case rel =>
            refine ⟨k + 1, by omega, by go_num, ?_, by go_grown⟩
            intro i hi
            have := C0.out
            obtain rfl : i = k := by omega
            exact HZ.out
          case measure => simp [intOf]; omega
        · obtain ⟨j, rfl⟩ : ∃ j, k = j + 1 := ⟨k - 1, by omega⟩
          clear c0
          obtain ⟨q1, q2, q3, q4⟩ := HC.out j (by omega)
          have p1 : ∀ o, (wr.alloc o).cell? ⟨b, off + j * 2, none⟩ = some (.int .i64 (D j)) := fun o => by rw [World.cell?_alloc_past _ _ _ (by omega), hb.cell (p := ⟨b, off + j * 2, none⟩) hbl]; exact q1
          have p2 : ∀ o, (wr.alloc o).cell? ⟨b, off + j * 2 + 1, none⟩ = some (.int .i64 (A j)) := fun o => by rw [World.cell?_alloc_past _ _ _ (by omega), hb.cell (p := ⟨b, off + j * 2 + 1, none⟩) hbl]; exact q2
          have g4 : ∀ o, (wr.alloc o).cell? ⟨4, 0, none⟩ = some (.iface 225 (.pointer (some (ad 3)))) := fun o => by rw [World.cell?_alloc_past _ _ _ (by omega)]; exact g3'
          obtain ⟨j1, j2, j3, j4, _⟩ := hok.out j (by omega)
          have no : ¬ (D j + 2 ≤ D (j + 1) ∧ (A (j + 1) - A j = 1 ∨ A (j + 1) - A j = -1)) → ¬ rowsOk D A len := fun h hall => h ((hall (j + 1) hlt).2.2.2.2 (by omega))
          have NO := Lib.hid no
          clear q1 q2 no
          by_cases g1 : D (j + 1) < D j + 2
          · have hno := NO.out (by omega)
            have HN := Lib.hid hno
            clear hno
            go_wp2
            go_quiet (fail)
            go_wp2
            go_quiet (fail)
            go_wp2
            go_ret
            exact ⟨⟨_, rfl, Or.inr (Or.inl ⟨hl, HN.out, rfl⟩)⟩, below_drewN (by go_grown) _⟩
          · have gd : decide (D (j + 1) < D j + 2) = false := decide_eq_false g1
            by_cases g2 : A (j + 1) - A j = 1
            · have b1 : (A (j + 1) - A j != 1) = false := by rw [bne_eq_false_iff_eq]; exact g2
              have hz : rowOk D A (j + 1) := ⟨r1, r2, r3, r4, fun _ => ⟨by simp; omega, Or.inl (by simpa using g2)⟩⟩
              have HZ := Lib.hid hz
              clear hz g2
              go_wp2
              go_quiet (fail)
              go_wp2
              go_quiet (fail)
              go_wp2
              go_roundw
              case rel =>
                refine ⟨j + 1 + 1, by omega, by go_num, ?_, below_drewN (by go_grown) _⟩
                intro i hi
                by_cases e : i = j + 1
                · rw [e]; exact HZ.out
                · exact hok.out i (by omega)
              case measure => simp [intOf]; omega
            · by_cases g3 : A (j + 1) - A j = -1
              · have b1 : (A (j + 1) - A j != 1) = true := by rw [bne_iff_ne]; exact g2
                have b2 : (A (j + 1) - A j != -1) = false := by rw [bne_eq_false_iff_eq]; exact g3
                have hz : rowOk D A (j + 1) := ⟨r1, r2, r3, r4, fun _ => ⟨by simp; omega, Or.inr (by simpa using g3)⟩⟩
                have HZ := Lib.hid hz
                clear hz g2 g3
                go_wp2
                go_quiet (fail)
                go_wp2
                go_quiet (fail)
                go_wp2
                go_roundw
                case rel =>
                  refine ⟨j + 1 + 1, by omega, by go_num, ?_, below_drewN (by go_grown) _⟩
                  intro i hi
                  by_cases e : i = j + 1
                  · rw [e]; exact HZ.out
                  · exact hok.out i (by omega)
                case measure => simp [intOf]; omega
              · have b1 : (A (j + 1) - A j != 1) = true := by rw [bne_iff_ne]; exact g2
                have b2 : (A (j + 1) - A j != -1) = true := by rw [bne_iff_ne]; exact g3
                have hno := NO.out (by omega)
                have HN := Lib.hid hno
                clear hno g2 g3
                go_wp2
                go_quiet (fail)
                go_wp2
                go_quiet (fail)
                go_wp2
                go_ret
                exact ⟨⟨_, rfl, Or.inr (Or.inl ⟨hl, HN.out, rfl⟩)⟩, below_drewN (by go_grown) _⟩
      · have hno : ¬ rowsOk D A len := fun hall => hr (by have := hall k hlt; unfold rowOk at this; omega)
        have HN := Lib.hid hno
        clear hno
        have g4 : ∀ o, (wr.alloc o).cell? ⟨4, 0, none⟩ = some (.iface 225 (.pointer (some (ad 3)))) := fun o => by rw [World.cell?_alloc_past _ _ _ (by omega)]; exact g3'
        by_cases r1 : 4000000 < D k
        · clear hr
          go_wp2
          go_ret
          exact ⟨⟨_, rfl, Or.inr (Or.inl ⟨hl, HN.out, rfl⟩)⟩, by go_grown⟩
        · by_cases r2 : D k < -4000000
          · clear hr
            go_wp2
            go_ret
            exact ⟨⟨_, rfl, Or.inr (Or.inl ⟨hl, HN.out, rfl⟩)⟩, by go_grown⟩
          · by_cases r3 : 1000 < A k
            · clear hr
              go_wp2
              go_ret
              exact ⟨⟨_, rfl, Or.inr (Or.inl ⟨hl, HN.out, rfl⟩)⟩, by go_grown⟩
            · have r4 : A k < -1000 := by omega
              clear hr
              go_wp2
              go_ret
              exact ⟨⟨_, rfl, Or.inr (Or.inl ⟨hl, HN.out, rfl⟩)⟩, by go_grown⟩
    · have e : k = len := by omega
      subst e
      go_wp2
      go_ret
      exact ⟨⟨_, rfl, Or.inr (Or.inr ⟨hl, hok.out, rfl⟩)⟩, hb⟩
end Go.Proofs.YtjdjncfpcbeedaaDoor
