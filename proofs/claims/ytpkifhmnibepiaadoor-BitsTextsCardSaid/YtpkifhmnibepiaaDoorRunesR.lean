/- The reference's runes. -/
import Derived.Test.YtpkifhmnibepiaaDoorRunesP
import Derived.Test.YtpkifhmnibepiaaDoorInts
namespace Go.Proofs.YtpkifhmnibepiaaDoor
open Go.RowKit

def bt (s : ByteArray) (i : Nat) : Nat := (s.get! i).toNat
theorem bt_in {s : ByteArray} {i : Nat} (h : i < s.size) : bt s i = s[i].toNat := by
  unfold bt
  simp [ByteArray.get!, h]
  rfl
def tailV (s : ByteArray) (i : Nat) : Int := if i < s.size ∧ 128 ≤ bt s i ∧ bt s i < 192 then (bt s i : Int) - 128 else -1
theorem tailV_bd (s : ByteArray) (i : Nat) : -1 ≤ tailV s i ∧ tailV s i ≤ 63 := by unfold tailV; split <;> omega
theorem ret_int {k : IntKind} {a b : Int} (h : a = b) : Ending.returned (.int k a) = .returned (.int k b) := by rw [h]
set_option maxRecDepth 20000 in
theorem tail_any (s : ByteArray) (i : Nat) (_hi : i ≤ 2000000) (_hs : s.size ≤ 1000000) (w : World) :
    Calls Tryd.prog 139 #[.string s, .int .i64 i] w fun e w' => e = .returned (.int .i64 (tailV s i)) ∧ w = w' := by
  by_cases c : i < s.size
  · have E := Lib.hid (bt_in c)
    go_enter Tryd.func139, Tryd.ntmps139
    go_wp2
    all_goals
      go_ret
      refine ⟨ret_int ?_, rfl⟩
      unfold tailV
      rw [E.out]
      first
        | rw [if_pos (by omega)]
        | rw [if_neg (by omega)]
  · have E : tailV s i = -1 := by unfold tailV; rw [if_neg (by omega)]
    rw [E]
    go_enter Tryd.func139, Tryd.ntmps139
    go_wp2
    go_ret
    exact ⟨rfl, rfl⟩
theorem tail_int (s : ByteArray) (x : Int) (h0 : 0 ≤ x) (h1 : x ≤ 2000000) (hs : s.size ≤ 1000000) (w : World) :
    Calls Tryd.prog 139 #[.string s, .int .i64 x] w fun e w' => e = .returned (.int .i64 (tailV s x.toNat)) ∧ w = w' := by
  have h := tail_any s x.toNat (by omega) hs w
  rw [show ((x.toNat : Nat) : Int) = x by omega] at h
  exact h
/-- A rune of its bytes: the first, and the three behind it, less 128 (-1: it is none). -/
def rF (c a b d : Int) : Int × Int :=
  if c < 128 then (c, 1) else
  if c < 194 ∨ 244 < c ∨ a < 0 then (-1, 1) else
  if c < 224 then ((c - 192) * 64 + a, 2) else
  if b < 0 then (-1, 1) else
  if c < 240 then (if (c - 224) * 4096 + a * 64 + b < 2048 ∨ (55296 ≤ (c - 224) * 4096 + a * 64 + b ∧ (c - 224) * 4096 + a * 64 + b < 57344) then (-1, 1) else ((c - 224) * 4096 + a * 64 + b, 3)) else
  if d < 0 then (-1, 1) else
  if (c - 240) * 262144 + a * 4096 + b * 64 + d < 65536 ∨ 1114111 < (c - 240) * 262144 + a * 4096 + b * 64 + d then (-1, 1) else ((c - 240) * 262144 + a * 4096 + b * 64 + d, 4)
def rAt (s : ByteArray) (i : Nat) : Int × Int := rF (bt s i) (tailV s (i + 1)) (tailV s (i + 2)) (tailV s (i + 3))
theorem ret_two {a b : Int} {p : Int × Int} (h : p = (a, b)) : Ending.returned (.tuple #[.int .i64 a, .int .i64 b]) = .returned (.tuple #[.int .i64 p.1, .int .i64 p.2]) := by rw [h]
set_option maxRecDepth 20000 in
set_option maxHeartbeats 4000000 in
theorem runeAt_any (s : ByteArray) (i : Nat) (hi : i < s.size) (hs : s.size ≤ 1000000) (w : World) :
    Calls Tryd.prog 114 #[.string s, .int .i64 i] w fun e w' => e = .returned (.tuple #[.int .i64 (rAt s i).1, .int .i64 (rAt s i).2]) ∧ w = w' := by
  have T1 := Lib.hid (fun w => tail_int s ((i : Int) + 1) (by omega) (by omega) hs w)
  have T2 := Lib.hid (fun w => tail_int s ((i : Int) + 2) (by omega) (by omega) hs w)
  have T3 := Lib.hid (fun w => tail_int s ((i : Int) + 3) (by omega) (by omega) hs w)
  rw [show ((i : Int) + 1).toNat = i + 1 by omega] at T1
  rw [show ((i : Int) + 2).toNat = i + 2 by omega] at T2
  rw [show ((i : Int) + 3).toNat = i + 3 by omega] at T3
  have E : Hid (rAt s i = rF s[i].toNat (tailV s (i + 1)) (tailV s (i + 2)) (tailV s (i + 3))) := Lib.hid (by
    unfold rAt; rw [bt_in hi])
  have h1 := tailV_bd s (i + 1)
  have h2 := tailV_bd s (i + 2)
  have h3 := tailV_bd s (i + 3)
  have hb : ((s[i].toNat : Nat) : Int) ≤ 255 := by have := s[i].toNat_lt; omega
  generalize tailV s (i + 1) = a at *
  generalize tailV s (i + 2) = b at *
  generalize tailV s (i + 3) = d at *
  generalize rAt s i = R at *
  go_enter Tryd.func114, Tryd.ntmps114
  go_wp2_with (first | (go_at_call 139; ((with_reducible refine (T1.out _).mono ?_); rintro e w' ⟨rfl, rfl⟩)) | (go_at_call 139; ((with_reducible refine (T2.out _).mono ?_); rintro e w' ⟨rfl, rfl⟩)) | (go_at_call 139; ((with_reducible refine (T3.out _).mono ?_); rintro e w' ⟨rfl, rfl⟩)))
  all_goals
    go_ret2
    refine ⟨ret_two ?_, rfl⟩
    rw [E.out]
    unfold rF
    repeat (first | rw [if_pos (by omega)] | rw [if_neg (by omega)])
end Go.Proofs.YtpkifhmnibepiaaDoor
