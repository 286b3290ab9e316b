/- Parts of lit pixels: plain laws. -/
import Derived.Test.YthbekddpnkammaaGreatDoorTab
import Derived.Test.YthbekddpnkammaaGreatDoorInts
namespace Go.Proofs.YthbekddpnkammaaGreatDoor
open Go.RowKit

/-- Pixels that touch. -/
def Adj (wide n k m : Nat) : Prop := k < n ∧ m < n ∧ m ≠ k ∧ ∃ dy dx : Int, -1 ≤ dy ∧ dy ≤ 1 ∧ -1 ≤ dx ∧ dx ≤ 1 ∧ (m : Int) = k + dy * wide + dx ∧ 0 ≤ (k % wide : Nat) + dx ∧ ((k % wide : Nat) : Int) + dx < wide
theorem place_at {wide k : Nat} {dy dx : Int} {m : Nat} (hw : 0 < wide) (h : (m : Int) = k + dy * wide + dx) (h1 : 0 ≤ ((k % wide : Nat) : Int) + dx) (h2 : ((k % wide : Nat) : Int) + dx < wide) :
    ((m % wide : Nat) : Int) = (k % wide : Nat) + dx ∧ ((m / wide : Nat) : Int) = (k / wide : Nat) + dy := by
  have ek : (k : Int) = (wide : Int) * ((k / wide : Nat) : Int) + ((k % wide : Nat) : Int) := by
    have := Nat.div_add_mod k wide
    rw [← Int.natCast_mul, ← Int.natCast_add, this]
  have e : (m : Int) = (((k % wide : Nat) : Int) + dx) + (wide : Int) * (((k / wide : Nat) : Int) + dy) := by
    rw [h, Int.mul_add, Int.mul_comm dy]; omega
  have hm : ((m % wide : Nat) : Int) = (m : Int) % wide := Int.natCast_emod ..
  have hd : ((m / wide : Nat) : Int) = (m : Int) / wide := Int.natCast_ediv ..
  refine ⟨?_, ?_⟩
  · rw [hm, e, Int.add_mul_emod_self_left, Int.emod_eq_of_lt h1 h2]
  · rw [hd, e, Int.add_mul_ediv_left _ _ (by omega), Int.ediv_eq_zero_of_lt h1 h2]; omega
theorem Adj.symm {wide n k m : Nat} (hw : 0 < wide) (h : Adj wide n k m) : Adj wide n m k := by
  obtain ⟨h1, h2, h3, dy, dx, a1, a2, b1, b2, e, c1, c2⟩ := h
  have hp := place_at hw e c1 c2
  have hk : ((k % wide : Nat) : Int) < wide := by have := Nat.mod_lt k hw; omega
  have hk0 : 0 ≤ ((k % wide : Nat) : Int) := by omega
  refine ⟨h2, h1, Ne.symm h3, -dy, -dx, by omega, by omega, by omega, by omega, ?_, by omega, by omega⟩
  rw [Int.neg_mul]; omega

/-- Lit pixels that hang together. -/
inductive Conn (lit : Nat → Bool) (wide n : Nat) : Nat → Nat → Prop
  | refl {a : Nat} : lit a = true → a < n → Conn lit wide n a a
  | step {a b c : Nat} : Conn lit wide n a b → Adj wide n b c → lit c = true → Conn lit wide n a c
section
variable {lit : Nat → Bool} {wide n : Nat}
theorem Conn.lit2 {a b : Nat} (h : Conn lit wide n a b) : lit b = true ∧ b < n := by
  cases h with
  | refl h1 h2 => exact ⟨h1, h2⟩
  | step _ h1 h2 => exact ⟨h2, h1.2.1⟩
theorem Conn.lit1 {a b : Nat} (h : Conn lit wide n a b) : lit a = true ∧ a < n := by
  induction h with
  | refl h1 h2 => exact ⟨h1, h2⟩
  | step _ _ _ ih => exact ih
theorem Conn.trans {a b c : Nat} (h : Conn lit wide n a b) (k : Conn lit wide n b c) : Conn lit wide n a c := by
  induction k with
  | refl _ _ => exact h
  | step _ h1 h2 ih => exact ih.step h1 h2
theorem Conn.head {a b c : Nat} (h : Adj wide n a b) (ha : lit a = true) (k : Conn lit wide n b c) : Conn lit wide n a c :=
  (Conn.step (Conn.refl ha h.1) h k.lit1.1).trans k
theorem Conn.symm (hw : 0 < wide) {a b : Nat} (h : Conn lit wide n a b) : Conn lit wide n b a := by
  induction h with
  | refl h1 h2 => exact Conn.refl h1 h2
  | step h0 h1 h2 ih => exact Conn.head (h1.symm hw) h2 ih

/-- The first pixel of a part. -/
def Root (lit : Nat → Bool) (wide n r : Nat) : Prop := lit r = true ∧ r < n ∧ ∀ j, j < r → ¬ Conn lit wide n j r
theorem root_exists {k : Nat} (h1 : lit k = true) (h2 : k < n) : ∃ r, Root lit wide n r ∧ Conn lit wide n r k ∧ r ≤ k := by
  have key : ∀ m, ∀ j, j ≤ m → Conn lit wide n j k → ∃ r, Root lit wide n r ∧ Conn lit wide n r k ∧ r ≤ j := by
    intro m
    induction m with
    | zero =>
      intro j hj hc
      obtain rfl : j = 0 := by omega
      exact ⟨0, ⟨hc.lit1.1, hc.lit1.2, fun i hi => absurd hi (Nat.not_lt_zero _)⟩, hc, Nat.le_refl _⟩
    | succ m ih =>
      intro j hj hc
      by_cases c : ∃ i, i < j ∧ Conn lit wide n i j
      · obtain ⟨i, hi, hij⟩ := c
        obtain ⟨r, a, b, d⟩ := ih i (by omega) (hij.trans hc)
        exact ⟨r, a, b, by omega⟩
      · exact ⟨j, ⟨hc.lit1.1, hc.lit1.2, fun i hi hij => c ⟨i, hi, hij⟩⟩, hc, Nat.le_refl _⟩
  exact key k k (Nat.le_refl _) (Conn.refl h1 h2)
theorem root_one (hw : 0 < wide) {r s k : Nat} (h1 : Root lit wide n r) (h2 : Root lit wide n s) (c1 : Conn lit wide n r k) (c2 : Conn lit wide n s k) : r = s := by
  rcases Nat.lt_trichotomy r s with c | c | c
  · exact absurd (c1.trans (c2.symm hw)) (h2.2.2 r c)
  · exact c
  · exact absurd (c2.trans (c1.symm hw)) (h1.2.2 s c)

open Classical in
/-- How many first pixels lie ahead. -/
noncomputable def rc (lit : Nat → Bool) (wide n : Nat) : Nat → Nat
  | 0 => 0
  | i + 1 => rc lit wide n i + (if Root lit wide n i then 1 else 0)
theorem rc_root {i : Nat} (h : Root lit wide n i) : rc lit wide n (i + 1) = rc lit wide n i + 1 := by rw [rc, if_pos h]
theorem rc_not {i : Nat} (h : ¬ Root lit wide n i) : rc lit wide n (i + 1) = rc lit wide n i := by rw [rc, if_neg h]; rfl
theorem rc_le (i : Nat) : rc lit wide n i ≤ i := by
  induction i with
  | zero => exact Nat.le_refl _
  | succ i ih =>
    by_cases h : Root lit wide n i
    · rw [rc_root h]; omega
    · rw [rc_not h]; omega
theorem rc_mono {i j : Nat} (h : i ≤ j) : rc lit wide n i ≤ rc lit wide n j := by
  induction j with
  | zero => rw [show i = 0 by omega]; exact Nat.le_refl _
  | succ j ih =>
    by_cases c : i = j + 1
    · rw [c]; exact Nat.le_refl _
    · have := ih (by omega)
      have h2 : rc lit wide n j ≤ rc lit wide n (j + 1) := by rw [rc]; omega
      omega

/-- What the labels are. -/
def Labels (lit : Nat → Bool) (wide n : Nat) (out : Nat → Int) : Prop :=
  ∀ k, k < n → (lit k = false → out k = 0) ∧ ∀ r, Root lit wide n r → Conn lit wide n r k → out k = (rc lit wide n (r + 1) : Nat)
theorem labels_one {f g : Nat → Int} (hf : Labels lit wide n f) (hg : Labels lit wide n g) : ∀ k, k < n → f k = g k := by
  intro k hk
  cases hl : lit k with
  | false => rw [(hf k hk).1 hl, (hg k hk).1 hl]
  | true =>
    obtain ⟨r, h1, h2, _⟩ := root_exists hl hk
    rw [(hf k hk).2 r h1 h2, (hg k hk).2 r h1 h2]
end
end Go.Proofs.YthbekddpnkammaaGreatDoor

namespace Go.Proofs.YthbekddpnkammaaGreatDoor
open Go.RowKit

def nbAt (k wide : Int) (d e : Nat) : Int := k + ((d : Int) - 1) * wide + ((e : Int) - 1)
def nbOk (x y k wide n : Int) (d e : Nat) : Prop := 0 ≤ x + ((e : Int) - 1) ∧ x + ((e : Int) - 1) < wide ∧ 0 ≤ y + ((d : Int) - 1) ∧ nbAt k wide d e < n ∧ nbAt k wide d e ≠ k
open Classical in
noncomputable def nbR (x y k wide n : Int) (d : Nat) : Nat → List Int
  | 0 => []
  | e + 1 => nbR x y k wide n d e ++ (if nbOk x y k wide n d e then [nbAt k wide d e] else [])
noncomputable def nbL (x y k wide n : Int) : Nat → List Int
  | 0 => []
  | d + 1 => nbL x y k wide n d ++ nbR x y k wide n d 3
section
variable {x y k wide n : Int}
theorem nbR_yes {d e : Nat} (h : nbOk x y k wide n d e) : nbR x y k wide n d (e + 1) = nbR x y k wide n d e ++ [nbAt k wide d e] := by rw [nbR, if_pos h]
theorem nbR_no {d e : Nat} (h : ¬ nbOk x y k wide n d e) : nbR x y k wide n d (e + 1) = nbR x y k wide n d e := by rw [nbR, if_neg h, List.append_nil]
theorem nbR_len (d e : Nat) : (nbR x y k wide n d e).length ≤ e := by
  induction e with
  | zero => exact Nat.le_refl _
  | succ e ih => rw [nbR, List.length_append]; split <;> simp <;> omega
theorem nbL_len (d : Nat) : (nbL x y k wide n d).length ≤ 3 * d := by
  induction d with
  | zero => exact Nat.le_refl _
  | succ d ih => have := nbR_len (x := x) (y := y) (k := k) (wide := wide) (n := n) d 3; rw [nbL, List.length_append]; omega
theorem mem_nbR {d e : Nat} {z : Int} : z ∈ nbR x y k wide n d e ↔ ∃ i, i < e ∧ nbOk x y k wide n d i ∧ z = nbAt k wide d i := by
  induction e with
  | zero => simp [nbR]
  | succ e ih =>
    rw [nbR, List.mem_append, ih]
    constructor
    · rintro (⟨i, h1, h2, h3⟩ | h)
      · exact ⟨i, by omega, h2, h3⟩
      · split at h
        · rename_i hok
          exact ⟨e, by omega, hok, by simpa using h⟩
        · simp at h
    · rintro ⟨i, h1, h2, h3⟩
      by_cases c : i = e
      · subst c; right; rw [if_pos h2]; simpa using h3
      · left; exact ⟨i, by omega, h2, h3⟩
theorem mem_nbL {d : Nat} {z : Int} : z ∈ nbL x y k wide n d ↔ ∃ j i, j < d ∧ i < 3 ∧ nbOk x y k wide n j i ∧ z = nbAt k wide j i := by
  induction d with
  | zero => simp [nbL]
  | succ d ih =>
    rw [nbL, List.mem_append, ih, mem_nbR]
    constructor
    · rintro (⟨j, i, h1, h2, h3⟩ | ⟨i, h2, h3⟩)
      · exact ⟨j, i, by omega, h2, h3⟩
      · exact ⟨d, i, by omega, h2, h3⟩
    · rintro ⟨j, i, h1, h2, h3⟩
      by_cases c : j = d
      · subst c; right; exact ⟨i, h2, h3⟩
      · left; exact ⟨j, i, by omega, h2, h3⟩
end
/-- The pixels around one, as they are gathered. -/
noncomputable def nbs (wide n k : Nat) : List Int := nbL ((k : Int) % wide) ((k : Int) / wide) k wide n 3
theorem nbs_len (wide n k : Nat) : (nbs wide n k).length ≤ 9 := nbL_len 3
theorem mem_nbs {wide n k : Nat} (hw : 0 < wide) (hk : k < n) (z : Int) : z ∈ nbs wide n k ↔ ∃ m : Nat, z = m ∧ Adj wide n k m := by
  have e1 : ((k % wide : Nat) : Int) = (k : Int) % wide := Int.natCast_emod ..
  have e2 : ((k / wide : Nat) : Int) = (k : Int) / wide := Int.natCast_ediv ..
  have ek : (k : Int) = (wide : Int) * ((k : Int) / wide) + (k : Int) % wide := (Int.mul_ediv_add_emod _ _).symm
  unfold nbs
  rw [mem_nbL]
  constructor
  · rintro ⟨j, i, hj, hi, ⟨a1, a2, a3, a4, a5⟩, rfl⟩
    have hz : 0 ≤ nbAt k wide j i := by
      have : nbAt k wide j i = (wide : Int) * ((k : Int) / wide + ((j : Int) - 1)) + ((k : Int) % wide + ((i : Int) - 1)) := by
        unfold nbAt
        rw [Int.mul_add, Int.mul_comm ((j : Int) - 1)]; omega
      rw [this]
      have := Int.mul_nonneg (show (0 : Int) ≤ wide by omega) a3
      omega
    refine ⟨(nbAt k wide j i).toNat, by omega, hk, by omega, by omega, (j : Int) - 1, (i : Int) - 1, by omega, by omega, by omega, by omega, ?_, by omega, by omega⟩
    rw [Int.toNat_of_nonneg hz]; rfl
  · rintro ⟨m, rfl, _, hm, hne, dy, dx, b1, b2, b3, b4, e, c1, c2⟩
    have hp := place_at hw e c1 c2
    have h0 : 0 ≤ ((m / wide : Nat) : Int) := Int.natCast_nonneg _
    have h1 : 0 ≤ ((m % wide : Nat) : Int) := Int.natCast_nonneg _
    have h2 : ((m % wide : Nat) : Int) < wide := by have := Nat.mod_lt m hw; omega
    refine ⟨(dy + 1).toNat, (dx + 1).toNat, by omega, by omega, ⟨by omega, by omega, by omega, ?_, ?_⟩, ?_⟩
    · unfold nbAt; rw [show (((dy + 1).toNat : Nat) : Int) - 1 = dy by omega, show (((dx + 1).toNat : Nat) : Int) - 1 = dx by omega]; omega
    · unfold nbAt; rw [show (((dy + 1).toNat : Nat) : Int) - 1 = dy by omega, show (((dx + 1).toNat : Nat) : Int) - 1 = dx by omega]; omega
    · unfold nbAt; rw [show (((dy + 1).toNat : Nat) : Int) - 1 = dy by omega, show (((dx + 1).toNat : Nat) : Int) - 1 = dx by omega]; exact e

set_option maxRecDepth 10000 in
set_option maxHeartbeats 4000000 in
theorem around_any (wide n k : Nat) (hw : 0 < wide) (hk : k < n) (hn : n ≤ 65536) (hwn : wide ≤ 65536) (w : World) :
    Calls Tryz.prog 80 #[.int .i64 k, .int .i64 wide, .int .i64 n] w fun e w' => (∃ v, e = .returned v ∧ Gath w v (nbs wide n k) w') := by
  obtain ⟨i0, hi, hz0, hz1, hz2⟩ := info_parts info_int'
  have hx : 0 ≤ (k : Int) % wide ∧ (k : Int) % wide < wide := ⟨Int.emod_nonneg _ (by omega), Int.emod_lt_of_pos _ (by omega)⟩
  have hy : 0 ≤ (k : Int) / wide ∧ (k : Int) / wide ≤ k := ⟨Int.ediv_nonneg (by omega) (by omega), Int.ediv_le_self _ (by omega)⟩
  have hw0 : ((wide : Int) == 0) = false := by simp; omega
  have e3 : nbs wide n k = nbL ((k : Int) % wide) ((k : Int) / wide) k wide n 3 := rfl
  have EX := Lib.hid e3
  clear e3
  go_enter Tryz.func80, Tryz.ntmps80
  go_wp2
  go_quiet (fail)
  generalize (k : Int) % wide = x at *
  generalize (k : Int) / wide = y at *
  have hB0 : Below w.heap.size w (w.drewN nq) := below_drewN (Below.refl _ _) _
  have HG0 : Hid (Gath w (.slice none 0 0) [] (w.drewN nq)) := Lib.hid ⟨World.ownsRow_nil _ _ _ _, hB0⟩
  clear hB0
  go_wp2
  have hpr : ∀ d : Nat, d < 3 → -65536 ≤ ((d : Int) - 1) * wide ∧ ((d : Int) - 1) * wide ≤ 65536 := by
    intro d hd
    have : d = 0 ∨ d = 1 ∨ d = 2 := by omega
    rcases this with rfl | rfl | rfl <;> omega
  have HPR := Lib.hid hpr
  clear hpr
  go_loopw [9, 10] (fun v t wr => ∃ d : Nat, d ≤ 3 ∧ t = .int .i64 ((d : Int) - 1) ∧ Hid (Gath w v (nbL x y k wide n d) wr)) (fun _ t _ => (2 - intOf t).toNat)
  case atStart => exact ⟨0, by decide, rfl, HG0⟩
  case round =>
    obtain ⟨d, hd, rfl, hG⟩ := hrel
    clear HG0
    by_cases hd3 : d < 3
    · have hp := HPR.out d hd3
      have hdd : decide ((d : Int) - 1 ≤ 1) = true := by simp; omega
      go_wp2
      go_loopw [9, 11] (fun v t wr => ∃ e : Nat, e ≤ 3 ∧ t = .int .i64 ((e : Int) - 1) ∧ Hid (Gath w v (nbL x y k wide n d ++ nbR x y k wide n d e) wr)) (fun _ t _ => (2 - intOf t).toNat)
      case atStart => exact ⟨0, by decide, rfl, Lib.hid (by rw [nbR, List.append_nil]; exact hG.out)⟩
      case round =>
        clear hG
        obtain ⟨e, he, rfl, hG⟩ := hrel
        by_cases he3 : e < 3
        · have hee : decide ((e : Int) - 1 ≤ 1) = true := by simp; omega
          have hat : nbAt k wide d e = (k : Int) + ((d : Int) - 1) * wide + ((e : Int) - 1) := rfl
          by_cases hok : nbOk x y k wide n d e
          · have HY := Lib.hid (show nbL x y k wide n d ++ nbR x y k wide n d (e + 1) = (nbL x y k wide n d ++ nbR x y k wide n d e) ++ [nbAt k wide d e] by rw [nbR_yes hok, List.append_assoc])
            obtain ⟨o1, o2, o3, o4, o5⟩ := hok
            rw [hat] at o4 o5
            have HA := Lib.hid hat
            have b5 : ((k : Int) + ((d : Int) - 1) * wide + ((e : Int) - 1) != k) = true := by rw [bne_iff_ne]; exact o5
            have hlen : (nbL x y k wide n d ++ nbR x y k wide n d e).length ≤ 100 := by
              have := nbL_len (x := x) (y := y) (k := k) (wide := wide) (n := n) d
              have := nbR_len (x := x) (y := y) (k := k) (wide := wide) (n := n) d e
              rw [List.length_append]; omega
            have hos := Lib.hid (fun o => World.ownsRow.alloc hG.out.1 o)
            have hsz := hG.out.2.size
            clear hat o5
            generalize nbL x y k wide n d ++ nbR x y k wide n d e = L at *
            go_wp2_with (first
              | (at_builtin; refine wpList_append_own_at _ rfl _ _ 29 rfl w.heap.size 3 i0 (.int .i64 0) 1 8 Tryz.underlying29 hi hz0 hz1 hz2 rfl (by decide) u9 L.length (L.map (Value.int .i64)) rfl (hos.out _) ⟨wr.heap.size, 0, none⟩ 1 1 [.int .i64 ((k : Int) + ((d : Int) - 1) * wide + ((e : Int) - 1))] rfl rfl ?c1 ?c2 ?c3 ?c4 ?c5 ?_)
              | fail)
            case c1 =>
              intro j u hj
              match j, hj with
              | 0, hj => simp at hj; subst hj; simp [Addr.add]
            case c2 =>
              intro u hu
              simp only [List.mem_cons, List.not_mem_nil, or_false] at hu
              subst hu; rfl
            case c3 => unfold maxLen; omega
            case c4 => omega
            case c5 => simp; omega
            intro v' w1 hown hgrow _ _
            have R := Lib.hid (hG.out.step hown hgrow)
            clear hown hgrow hos
            go_wp2
            go_roundw
            case rel => exact ⟨e + 1, by omega, by go_num, Lib.hid (by rw [HY.out, HA.out]; exact R.out)⟩
            case measure => simp [intOf]; omega
          · have HY := Lib.hid (nbR_no hok)
            have R : Hid (Gath w u9 (nbL x y k wide n d ++ nbR x y k wide n d (e + 1)) wr) := Lib.hid (by rw [HY.out]; exact hG.out)
            unfold nbOk at hok
            rw [hat] at hok
            clear hat hG HY
            by_cases o1 : 0 ≤ x + ((e : Int) - 1)
            · by_cases o2 : x + ((e : Int) - 1) < wide
              · by_cases o3 : 0 ≤ y + ((d : Int) - 1)
                · by_cases o4 : (k : Int) + ((d : Int) - 1) * wide + ((e : Int) - 1) < n
                  · have o5 : (k : Int) + ((d : Int) - 1) * wide + ((e : Int) - 1) = k := by
                      rcases Int.decEq ((k : Int) + ((d : Int) - 1) * wide + ((e : Int) - 1)) k with h | h
                      · exact absurd ⟨o1, o2, o3, o4, h⟩ hok
                      · exact h
                    have b5 : ((k : Int) + ((d : Int) - 1) * wide + ((e : Int) - 1) != k) = false := by rw [bne_eq_false_iff_eq]; exact o5
                    clear hok o5
                    go_wp2
                    go_roundw
                    case rel => exact ⟨e + 1, by omega, by go_num, R⟩
                    case measure => simp [intOf]; omega
                  · clear hok
                    go_wp2
                    go_roundw
                    case rel => exact ⟨e + 1, by omega, by go_num, R⟩
                    case measure => simp [intOf]; omega
                · clear hok
                  go_wp2
                  go_roundw
                  case rel => exact ⟨e + 1, by omega, by go_num, R⟩
                  case measure => simp [intOf]; omega
              · clear hok
                go_wp2
                go_roundw
                case rel => exact ⟨e + 1, by omega, by go_num, R⟩
                case measure => simp [intOf]; omega
            · clear hok
              go_wp2
              go_roundw
              case rel => exact ⟨e + 1, by omega, by go_num, R⟩
              case measure => simp [intOf]; omega
        · obtain rfl : e = 3 := by omega
          have R : Hid (Gath w u9 (nbL x y k wide n (d + 1)) wr) := hG
          clear hG
          go_wp2
          go_roundw
          case rel => exact ⟨d + 1, by omega, by go_num, R⟩
          case measure => simp [intOf]; omega
    · obtain rfl : d = 3 := by omega
      go_wp2
      go_ret
      exact ⟨_, rfl, by rw [EX.out]; exact hG.out⟩
end Go.Proofs.YthbekddpnkammaaGreatDoor
