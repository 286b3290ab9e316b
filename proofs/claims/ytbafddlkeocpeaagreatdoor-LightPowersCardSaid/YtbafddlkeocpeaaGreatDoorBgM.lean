/- The product of two numbers of at most one word each. -/
import Derived.Test.YtbafddlkeocpeaaGreatDoorBgI
import Derived.LaidEqlPtr
import Derived.Deep.CutBlock
import Derived.Deep.DeepCutAuto
namespace Go.Proofs.YtbafddlkeocpeaaGreatDoor
open Go.RowKit

theorem natMul_n0 (ax : Option Addr) (lx cx : Nat) (hl : lx ≤ 1) (w : World) :
    Calls Tryz.prog 53 #[.slice none 0 0, .pointer none, .slice ax lx cx, .slice none 0 0] w fun e w' => e = .returned (.slice none 0 0) ∧ w' = w := by
  obtain rfl | rfl : lx = 0 ∨ lx = 1 := by omega
  all_goals
    go_enter Tryz.func53, Tryz.ntmps53
    go_wp2
    go_ret
    exact ⟨rfl, rfl⟩
theorem natMul_0n (ay : Option Addr) (cy : Nat) (w : World) :
    Calls Tryz.prog 53 #[.slice none 0 0, .pointer none, .slice none 0 0, .slice ay 1 cy] w fun e w' => e = .returned (.slice none 0 0) ∧ w' = w := by
  have H := Lib.hid (fun W => natMul_n0 ay 1 cy (by omega) W)
  go_enter Tryz.func53, Tryz.ntmps53
  go_wp2_with fail
  refine (H.out _).mono ?_; rintro e w' ⟨rfl, rfl⟩
  go_wp2
  go_ret
  exact ⟨rfl, rfl⟩
theorem natMul_11 (bx by' x y : Nat) (hx : x < 18446744073709551616) (hy : y < 18446744073709551616) (hx0 : x ≠ 0) (hy0 : y ≠ 0) (cx cy : Nat) (w : World)
    (hX : w.cell? ⟨bx, 0, none⟩ = some (.int .u64 (x : Int))) (hY : w.cell? ⟨by', 0, none⟩ = some (.int .u64 (y : Int))) :
    Calls Tryz.prog 53 #[.slice none 0 0, .pointer none, .slice (some ⟨bx, 0, none⟩) 1 cx, .slice (some ⟨by', 0, none⟩) 1 cy] w fun e w' =>
      ∃ k, e = .returned (.slice (some ⟨w.heap.size, 0, none⟩) k 6) ∧ (k = 1 ∧ x * y < 18446744073709551616 ∨ k = 2 ∧ 18446744073709551616 ≤ x * y) ∧
        w'.heap[w.heap.size]? = some (.cells #[.int .u64 ((x * y % 18446744073709551616 : Nat) : Int), .int .u64 ((x * y / 18446744073709551616 : Nat) : Int), .int .u64 0, .int .u64 0, .int .u64 0, .int .u64 0] 71) ∧
        w'.heap.size = w.heap.size + 1 ∧ Below w.heap.size w w' := by
  have H := Lib.hid (mulAddWW_one bx x y hx hy hx0 hy0 cx w hX)
  go_enter Tryz.func53, Tryz.ntmps53
  go_wp2_with fail
  refine H.out.mono ?_; rintro e w' ⟨k, rfl, h1, h2, h5, h6⟩
  have h2' := Lib.hid h2
  clear h2 H
  have hk : k ≤ 2 := by omega
  have h1' := Lib.hid h1
  clear h1
  go_wp2
  go_ret
  exact ⟨k, rfl, h1'.out, h2'.out, h5, h6⟩

theorem ptr_ne (a b : Nat) (hne : a ≠ b) (ca cb : Array Value) (w : World) (ha : w.heap[a]? = some (.cells ca 52)) (hb : w.heap[b]? = some (.cells cb 52)) :
    (binOp .eql 48 (.pointer (some ⟨a, 0, none⟩)) (.pointer (some ⟨b, 0, none⟩))).run Tryz.prog w = .ok (.bool false) w := by
  obtain ⟨j, hj, hs⟩ : ∃ j, Tryz.prog.info? 52 = some j ∧ j.size ≠ 0 := by
    have h : (Tryz.prog.info? 52).map (fun i => i.size) = some 2 := by kernel_rfl
    obtain ⟨j, h1, h2⟩ := Option.map_eq_some_iff.1 h
    exact ⟨j, h1, by omega⟩
  exact run_eql_ptr_other w (tp := 48) (te := 52) Tryz.underlying48 hj hs (fun e => hne (by cases e; rfl)) ha hb
/-- A product as it lies in memory: at block p; its words (two, or one, or none) at block g. -/
def Prd (w : World) (B p : Nat) (neg : Bool) (P : Nat) : Prop :=
  P = 0 ∧ w.heap[p]? = some (.cells #[.bool false, .slice none 0 0] 52) ∨
  P ≠ 0 ∧ ∃ k g, (k = 1 ∧ P < 18446744073709551616 ∨ k = 2 ∧ 18446744073709551616 ≤ P) ∧ B ≤ g ∧ g ≠ p ∧
    w.heap[p]? = some (.cells #[.bool neg, .slice (some ⟨g, 0, none⟩) k 6] 52) ∧
    w.heap[g]? = some (.cells #[.int .u64 ((P % 18446744073709551616 : Nat) : Int), .int .u64 ((P / 18446744073709551616 : Nat) : Int), .int .u64 0, .int .u64 0, .int .u64 0, .int .u64 0] 71)

set_option maxHeartbeats 2000000 in
set_option maxRecDepth 20000 in
theorem intMul_11 (B p px py : Nat) (x y : Int) (hx : 0 < x) (hx2 : x ≤ 9223372036854775807) (hy : y ≠ 0) (hy2 : In64 y) (w : World) (hB : B ≤ w.heap.size) (hp : B ≤ p)
    (X : Int1 w B px x) (Y : Int1 w B py y) (hpx : p ≠ px) (hpy : p ≠ py) (hxy : px ≠ py) (p0 : w.heap[p]? = some (.cells #[.bool false, .slice none 0 0] 52)) :
    Calls Tryz.prog 39 #[.pointer (some ⟨p, 0, none⟩), .pointer none, .pointer (some ⟨px, 0, none⟩), .pointer (some ⟨py, 0, none⟩)] w fun e w' =>
      e = .returned (.tuple #[]) ∧ Prd w' B p (decide (y < 0)) (x.natAbs * y.natAbs) ∧ Below B w w' := by
  obtain ⟨x1, ⟨x4, _⟩ | ⟨x4, gx, x5, x7, x8, x9⟩⟩ := X
  · omega
  obtain ⟨y1, ⟨y4, _⟩ | ⟨y4, gy, y5, y7, y8, y9⟩⟩ := Y
  · omega
  have H := Lib.hid (natMul_11 gx gy x.natAbs y.natAbs (by unfold In64 at hy2; omega) (by unfold In64 at hy2; omega) (by omega) (by omega) 1 1 w.drew (heap_cell (w := w.drew) x9 0 rfl) (heap_cell (w := w.drew) y9 0 rfl))
  have hd : decide (x < 0) = false := by simp; omega
  rw [hd] at x8
  have hpe := ptr_ne px py hxy _ _ w x8 y8
  obtain ⟨yn, hyn⟩ : ∃ yn, yn = decide (y < 0) := ⟨_, rfl⟩
  rw [← hyn] at y8
  rw [← hyn]
  obtain ⟨P, hP⟩ : ∃ P, P = x.natAbs * y.natAbs := ⟨_, rfl⟩
  rw [← hP] at H
  rw [← hP]
  have hP0 : P ≠ 0 := by rw [hP]; exact Nat.mul_ne_zero (by omega) (by omega)
  have lp := heap_lt p0
  have lx := heap_lt x8
  have ly := heap_lt y8
  have cp := heap_cell p0 1 rfl
  have cx := heap_cell x8 1 rfl
  have cy := heap_cell y8 1 rfl
  have X8 := Lib.hid x8
  have Y8 := Lib.hid y8
  have P0 := Lib.hid p0
  have FX : Hid (∀ w', Below w.drew.heap.size w.drew w' → w'.cell? ⟨p, 1, none⟩ = some (.slice none 0 0) ∧ w'.frozen? ⟨p, 1, none⟩ = false) := Lib.hid (fun w' hb => ⟨by rw [hb.cell (p := ⟨p, 1, none⟩) lp]; exact cp, by rw [hb.frozen (p := ⟨p, 1, none⟩) lp]; exact heap_frozen P0.out 1⟩)
  clear hx hx2 hy hy2 hd hyn hP x9 y9 x4 y4 x8 y8 p0
  go_enter Tryz.func39, Tryz.ntmps39
  go_upto_region 3 with (fail)
  go_cut [] (fun wx => ∃ k w', Hid ((k = 1 ∧ P < 18446744073709551616 ∨ k = 2 ∧ 18446744073709551616 ≤ P) ∧ w'.heap[w.drew.heap.size]? = some (.cells #[.int .u64 ((P % 18446744073709551616 : Nat) : Int), .int .u64 ((P / 18446744073709551616 : Nat) : Int), .int .u64 0, .int .u64 0, .int .u64 0, .int .u64 0] 71) ∧ w'.heap.size = w.drew.heap.size + 1 ∧ Below w.drew.heap.size w.drew w') ∧ wx = w'.setCell ⟨p, 1, none⟩ (.slice (some ⟨w.heap.size, 0, none⟩) k 6))
  case first =>
    go_region_with (go_at_call 53; refine H.out.mono ?_; rintro e w' ⟨k, rfl, h1, h2, h5, h6⟩; obtain ⟨q1, q2⟩ := FX.out w' h6; have Z := Lib.hid (And.intro h1 (And.intro h2 (And.intro h5 h6))); clear h1 h2 h5 h6)
    all_goals
      go_wp2_with fail
      go_meet
      exact ⟨_, _, Z, rfl⟩
  case rest =>
    rename World => wo
    obtain ⟨k, w', Z, rfl⟩ := hcut
    obtain ⟨z1, z2, z3, z4⟩ := Z.out
    have hgp : w.heap.size ≠ p := by omega
    have op : (w'.setCell ⟨p, 1, none⟩ (.slice (some ⟨w.heap.size, 0, none⟩) k 6)).heap[p]? = some (.cells #[.bool false, .slice (some ⟨w.heap.size, 0, none⟩) k 6] 52) := heap_set (by rw [z4.block _ lp]; exact P0.out) 1 _
    have ox : (w'.setCell ⟨p, 1, none⟩ (.slice (some ⟨w.heap.size, 0, none⟩) k 6)).heap[px]? = some (.cells #[.bool false, .slice (some ⟨gx, 0, none⟩) 1 1] 52) := by rw [heap_set_far (Ne.symm hpx), z4.block _ lx]; exact X8.out
    have oy : (w'.setCell ⟨p, 1, none⟩ (.slice (some ⟨w.heap.size, 0, none⟩) k 6)).heap[py]? = some (.cells #[.bool yn, .slice (some ⟨gy, 0, none⟩) 1 1] 52) := by rw [heap_set_far (Ne.symm hpy), z4.block _ ly]; exact Y8.out
    have og : (w'.setCell ⟨p, 1, none⟩ (.slice (some ⟨w.heap.size, 0, none⟩) k 6)).heap[w.heap.size]? = some (.cells #[.int .u64 ((P % 18446744073709551616 : Nat) : Int), .int .u64 ((P / 18446744073709551616 : Nat) : Int), .int .u64 0, .int .u64 0, .int .u64 0, .int .u64 0] 71) := by rw [heap_set_far hgp]; exact z2
    have hB' : Below B w (w'.setCell ⟨p, 1, none⟩ (.slice (some ⟨w.heap.size, 0, none⟩) k 6)) := Below.setCell ((Below.refl B w).drew.trans (z4.mono hB)) hp _
    generalize w'.setCell ⟨p, 1, none⟩ (.slice (some ⟨w.heap.size, 0, none⟩) k 6) = W at *
    have c0 := heap_cell op 0 rfl
    have c1 := heap_cell op 1 rfl
    have c2 := heap_cell ox 0 rfl
    have c3 := heap_cell oy 0 rfl
    have f0 := heap_frozen op 0
    have OP := Lib.hid op
    have OG := Lib.hid og
    clear op ox oy og z2 z4 cp cx cy Z H FX X8 Y8 P0
    have hk : (0 : Int) < (k : Int) := by omega
    clear hk hpe
    have HK : Hid (∀ v, (W.drew.setCell ⟨p, 0, none⟩ v).cell? ⟨p, 1, none⟩ = some (.slice (some ⟨w.heap.size, 0, none⟩) k 6) ∧ (W.drew.setCell ⟨p, 0, none⟩ v).cell? ⟨px, 0, none⟩ = some (.bool false) ∧ (W.drew.setCell ⟨p, 0, none⟩ v).cell? ⟨py, 0, none⟩ = some (.bool yn) ∧ (W.drew.setCell ⟨p, 0, none⟩ v).frozen? ⟨p, 0, none⟩ = false) := Lib.hid (fun v => ⟨by rw [World.cell?_setCell_other _ _ _ _ (by simp)]; exact c1, by rw [World.cell?_setCell_other _ _ _ _ (by simp)]; exact c2, by rw [World.cell?_setCell_other _ _ _ _ (by simp)]; exact c3, by rw [World.frozen?_setCell]; exact f0⟩)
    have HK0 : Hid (W.drew.cell? ⟨p, 1, none⟩ = some (.slice (some ⟨w.heap.size, 0, none⟩) k 6) ∧ W.drew.cell? ⟨px, 0, none⟩ = some (.bool false) ∧ W.drew.cell? ⟨py, 0, none⟩ = some (.bool yn) ∧ W.drew.frozen? ⟨p, 0, none⟩ = false) := Lib.hid ⟨c1, c2, c3, f0⟩
    have hkk : k = 1 ∨ k = 2 := by omega
    have Z1 := Lib.hid z1
    clear z1
    rcases hkk with rfl | rfl
    · go_wp2
      go_region_held3 (fun w' => w'.cell? ⟨p, 1, none⟩ = some (.slice (some ⟨w.heap.size, 0, none⟩) 1 6) ∧ w'.cell? ⟨px, 0, none⟩ = some (.bool false) ∧ w'.cell? ⟨py, 0, none⟩ = some (.bool yn) ∧ w'.frozen? ⟨p, 0, none⟩ = false) (first | (exact HK0.out) | (exact HK.out _) | go_keep) (fail)
      all_goals
        go_wp2
        go_end0
        have og' := OG.out
        rw [← heap_set_far (w := W) hgp 0 (.bool yn)] at og'
        exact ⟨rfl, Or.inr ⟨hP0, 1, w.heap.size, (by have h := Z1.out; omega), hB, hgp, heap_set OP.out 0 (.bool yn), og'⟩, (hB'.setCell hp _).drew⟩
    · go_wp2
      go_region_held3 (fun w' => w'.cell? ⟨p, 1, none⟩ = some (.slice (some ⟨w.heap.size, 0, none⟩) 2 6) ∧ w'.cell? ⟨px, 0, none⟩ = some (.bool false) ∧ w'.cell? ⟨py, 0, none⟩ = some (.bool yn) ∧ w'.frozen? ⟨p, 0, none⟩ = false) (first | (exact HK0.out) | (exact HK.out _) | go_keep) (fail)
      all_goals
        go_wp2
        go_end0
        have og' := OG.out
        rw [← heap_set_far (w := W) hgp 0 (.bool yn)] at og'
        exact ⟨rfl, Or.inr ⟨hP0, 2, w.heap.size, (by have h := Z1.out; omega), hB, hgp, heap_set OP.out 0 (.bool yn), og'⟩, (hB'.setCell hp _).drew⟩
end Go.Proofs.YtbafddlkeocpeaaGreatDoor
