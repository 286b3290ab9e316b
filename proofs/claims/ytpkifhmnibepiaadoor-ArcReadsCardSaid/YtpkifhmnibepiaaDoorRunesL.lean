/- Runes of package meridianref1: its walk. -/
import Derived.Test.YtpkifhmnibepiaaDoorRunesW
import Derived.Test.YtpkifhmnibepiaaDoorScan
namespace Go.Proofs.YtpkifhmnibepiaaDoor
open Go.RowKit

def rdecR (s : ByteArray) : Nat → Nat → List Int
  | 0, _ => []
  | b + 1, i => if i < s.size then (rAt s i).1 :: rdecR s b (i + (rAt s i).2.toNat) else []
theorem rdec_like (s : ByteArray) : ∀ b i, (rdecR s b i).length = (rdec s b i).length ∧ ∀ j, ((rdec s b i).getD j 0 : Nat) = (rdecR s b i).getD j 0 ∨ (((rdec s b i).getD j 0 : Nat) = (65533 : Int) ∧ (rdecR s b i).getD j 0 = -1)
  | 0, _ => ⟨rfl, fun j => Or.inl (by simp [rdec, rdecR])⟩
  | b + 1, i => by
    unfold rdec rdecR
    by_cases c : i < s.size
    · rw [if_pos c, if_pos c]
      obtain ⟨e1, e2⟩ := rAt_decode s i
      obtain ⟨h1, h2⟩ := rdec_like s b (i + (Utf8.decode s i).2)
      rw [show (rAt s i).2.toNat = (Utf8.decode s i).2 by omega]
      refine ⟨by simp [h1], fun j => ?_⟩
      cases j with
      | zero =>
        simp only [List.getD_cons_zero]
        rcases e2 with e | ⟨e, e'⟩
        · exact Or.inl e.symm
        · exact Or.inr ⟨by rw [e]; rfl, e'⟩
      | succ j => simp only [List.getD_cons_succ]; exact h2 j
    · rw [if_neg c, if_neg c]
      exact ⟨rfl, fun j => Or.inl (by simp)⟩
def runesR (s : ByteArray) : List Int := rdecR s s.size 0
def runeR (s : ByteArray) (j : Nat) : Int := (runesR s).getD j 0
theorem runesR_length (s : ByteArray) : (runesR s).length = (runes s).length := (rdec_like s s.size 0).1
theorem runes_like (s : ByteArray) : Like (seeF (runes s).length (runeL s)) (seeF (runes s).length (runeR s)) := by
  intro i
  unfold seeF
  split
  · exact (rdec_like s s.size 0).2 i
  · exact Or.inl rfl

theorem rdecR_ge {s : ByteArray} {b i : Nat} (h : s.size ≤ i) : rdecR s b i = [] := by
  cases b with
  | zero => rfl
  | succ b => unfold rdecR; rw [if_neg (by omega)]
set_option maxHeartbeats 2000000 in
theorem runes_any (s : ByteArray) (hs : s.size ≤ 1000000) (w : World) :
    Calls Tryd.prog 63 #[.string s] w fun e w' => ∃ v, e = .returned v ∧ Gath w v (runesR s) w' := by
  obtain ⟨i0, hi, hz0, hz1, hz2⟩ := info_parts info_int'
  have HR := Lib.hid (fun i h w => runeAt_any s i h hs w)
  have HG0 : Hid (Gath w (.slice none 0 0) [] w) := Lib.hid (Gath.nil w)
  go_enter Tryd.func63, Tryd.ntmps63
  go_wp2
  go_loopw [3, 4] (fun v i wr => ∃ (L : List Int) (k b : Nat), i = .int .i64 k ∧ k ≤ 2000000 ∧ L.length ≤ k ∧ Hid (L ++ rdecR s b k = runesR s) ∧ s.size ≤ k + b ∧ Hid (Gath w v L wr)) (fun _ i _ => s.size - (intOf i).toNat)
  case atStart => exact ⟨[], 0, s.size, rfl, by omega, by simp, Lib.hid rfl, by omega, HG0⟩
  case round =>
    obtain ⟨L, k, b, rfl, hk, hL, hC, hb, hG⟩ := hrel
    clear HG0
    by_cases hlt : k < s.size
    · have hA := HR.out k hlt
      have hwd := rAt_wide s k
      obtain ⟨b', rfl⟩ : ∃ b', b = b' + 1 := ⟨b - 1, by omega⟩
      have hC2 : Hid ((L ++ [(rAt s k).1]) ++ rdecR s b' (k + (rAt s k).2.toNat) = runesR s) := Lib.hid (by
        rw [← hC.out, List.append_assoc]; conv => rhs; rw [rdecR, if_pos hlt]
        rfl)
      generalize (rAt s k).1 = x at *
      generalize (rAt s k).2 = y at *
      have HA := Lib.hid hA
      have hos := Lib.hid (fun o => World.ownsRow.alloc hG.out.1 o)
      have hsz := hG.out.2.size
      clear hA hC
      go_wp2_with fail
      refine (HA.out _).mono ?_; rintro e w' ⟨rfl, rfl⟩
      go_wp2_with (first
        | (at_builtin; refine wpList_append_own_at _ rfl _ _ 48 rfl w.heap.size 3 i0 (.int .i64 0) 1 8 Tryd.underlying48 hi hz0 hz1 hz2 rfl (by decide) u3 L.length (L.map (Value.int .i64)) rfl (hos.out _) ⟨wr.heap.size, 0, none⟩ 1 1 [.int .i64 x] rfl rfl ?c1 ?c2 ?c3 ?c4 ?c5 ?_)
        | fail)
      case c1 =>
        intro j u hj
        match j, hj with
        | 0, hj => simp at hj; subst hj; simp [Addr.add]
      case c2 =>
        intro u hu
        simp only [List.mem_cons, List.not_mem_nil, or_false] at hu
        subst hu; rfl
      case c3 => unfold maxLen; omega
      case c4 => omega
      case c5 => simp; omega
      intro v' w1 hown hgrow _ _
      have R := Lib.hid (hG.out.step hown hgrow)
      clear hown hgrow hos HA
      go_wp2
      go_roundw
      case rel => exact ⟨L ++ [x], k + y.toNat, b', by rw [show ((k + y.toNat : Nat) : Int) = k + y by omega], by omega, by rw [List.length_append, List.length_singleton]; omega, hC2, by omega, R⟩
      case measure => simp [intOf]; omega
    · have e : L = runesR s := by have := hC.out; rw [rdecR_ge (by omega), List.append_nil] at this; exact this
      subst e
      go_wp2
      go_ret
      exact ⟨_, rfl, hG.out⟩
end Go.Proofs.YtpkifhmnibepiaaDoor
