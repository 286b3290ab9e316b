/- Mod by a turn; the rest as an int64. -/
import Derived.Test.YtbafddlkeocpeaaGreatDoorBgQ
import Derived.Test.YtbafddlkeocpeaaGreatDoorBgY
import Derived.Test.YtbafddlkeocpeaaGreatDoorBgS
import Derived.Test.YtbafddlkeocpeaaGreatDoorBgZ
namespace Go.Proofs.YtbafddlkeocpeaaGreatDoor
open Go.RowKit

/-- What is left of P, with its sign, brought into one turn. -/
def modV (neg : Bool) (P : Nat) : Nat := if P % 1296000000000 = 0 then 0 else if neg then 1296000000000 - P % 1296000000000 else P % 1296000000000
/-- A number as Int64 reads it. -/
def Val (w : World) (p : Nat) (v : Nat) : Prop :=
  (v = 0 ∧ ∃ a c b, w.heap[p]? = some (.cells #[.bool b, .slice a 0 c] 52) ∧ b = false) ∨ (∃ g, w.heap[p]? = some (.cells #[.bool false, .slice (some ⟨g, 0, none⟩) 1 6] 52) ∧ w.cell? ⟨g, 0, none⟩ = some (.int .u64 (v : Int)))

theorem int64_val (p v : Nat) (hv : v < 1296000000000) (w : World) (h : Val w p v) :
    Calls Tryz.prog 25 #[.pointer (some ⟨p, 0, none⟩)] w fun e w' => e = .returned (.int .i64 (v : Int)) ∧ w' = w := by
  rcases h with ⟨rfl, a, c, b, h, rfl⟩ | ⟨g, h, hg⟩
  · have c0 := heap_cell h 0 rfl
    have c1 := heap_cell h 1 rfl
    clear h
    go_enter Tryz.func25, Tryz.ntmps25
    go_wp2
    go_ret
    exact ⟨rfl, rfl⟩
  · have c0 := heap_cell h 0 rfl
    have c1 := heap_cell h 1 rfl
    clear h
    go_enter Tryz.func25, Tryz.ntmps25
    go_wp2
    go_ret
    exact ⟨rfl, rfl⟩

def qObj : Obj := .cells #[.bool false, .slice none 0 0] 52
set_option maxHeartbeats 2000000 in
set_option maxRecDepth 20000 in
theorem mod_n (B p pt g gt k P : Nat) (neg : Bool) (hP0 : P ≠ 0) (hk : k = 1 ∧ P < 18446744073709551616 ∨ k = 2 ∧ 18446744073709551616 ≤ P) (hP : P / 18446744073709551616 < 1296000000000) (w : World) (hB : B ≤ w.heap.size)
    (op : w.heap[p]? = some (.cells #[.bool neg, .slice (some ⟨g, 0, none⟩) k 6] 52))
    (ot : w.heap[pt]? = some (.cells #[.bool false, .slice (some ⟨gt, 0, none⟩) 1 1] 52)) (ogt : w.heap[gt]? = some (.cells #[.int .u64 1296000000000] 71)) (og : w.heap[g]? = some (.cells (prdCells P) 71))
    (n2 : p ≠ pt) (n4 : g ≠ p) (n6 : g ≠ pt) (n7 : gt ≠ p) (n9 : gt ≠ g) (hBp : B ≤ p) (hBg : B ≤ g) :
    Calls Tryz.prog 24 #[.pointer (some ⟨p, 0, none⟩), .pointer (some ⟨p, 0, none⟩), .pointer (some ⟨pt, 0, none⟩)] w fun e w' =>
      e = .returned (.pointer (some ⟨p, 0, none⟩)) ∧ Val w' p (modV neg P) ∧ Below B w w' := by
  have lp := heap_lt op
  have lt := heap_lt ot
  have lgt := heap_lt ogt
  have lg := heap_lt og
  have HE := fun n => ptr_ne p pt n2 _ _ (w.drewN n) op ot
  have HA : Hid (∀ n, Calls Tryz.prog 40 #[.slice (some ⟨g, 0, none⟩) k 6, .slice (some ⟨gt, 0, none⟩) 1 1] (w.drewN n) fun e w' => e = .returned (.bool false) ∧ ∃ m, w' = w.drewN m) := Lib.hid (fun n => (alias_1 g k gt (Ne.symm n9) _ _ (w.drewN n) og ogt).mono (fun e w' ⟨h1, m, h2⟩ => ⟨h1, n + m, by rw [h2, World.drewN_drewN]⟩))
  have HQ : Hid (∀ n, Calls Tryz.prog 42 #[.pointer (some ⟨w.heap.size, 0, none⟩), .pointer (some ⟨p, 0, none⟩), .pointer (some ⟨pt, 0, none⟩), .pointer (some ⟨p, 0, none⟩)] ((w.drewN n).alloc qObj) fun e w' =>
      e = .returned (.tuple #[.pointer (some ⟨w.heap.size, 0, none⟩), .pointer (some ⟨p, 0, none⟩)]) ∧ Done ((w.drewN n).alloc qObj) w' B p pt g gt neg P) := Lib.hid (fun n => by
    have ha : ∀ b, b < w.heap.size → ((w.drewN n).alloc qObj).heap[b]? = w.heap[b]? := fun b hb => Below.heap_alloc (w.drewN n) _ b hb
    exact quoRem_n B p w.heap.size pt g gt k P neg hP0 hk hP ((w.drewN n).alloc qObj) (by simp; omega) ((ha p lp).trans op) (heap_new (w.drewN n) _) ((ha pt lt).trans ot) ((ha gt lgt).trans ogt) ((ha g lg).trans og)
      (by omega) n2 (by omega) n4 (by omega) n6 n7 (by omega) n9 hBp hB hBg)
  have c0 := heap_cell op 1 rfl
  have c1 := heap_cell ot 1 rfl
  have hnn : ∀ n, Below B w ((w.drewN n).alloc qObj) := fun n => (below_drewN (Below.refl B w) n).alloc hB _
  have HN := Lib.hid hnn
  clear op ot ogt og hk hP hnn lp lt lgt lg
  obtain ⟨T, hT⟩ : ∃ T, T = modV neg P := ⟨_, rfl⟩
  rw [← hT]
  have HT := Lib.hid hT
  clear hT
  go_enter Tryz.func24, Tryz.ntmps24
  go_wp2
  go_quiet (first | (go_at_call 40; exact HA.out _))
  go_wp2_with fail
  refine (HQ.out _).mono ?_; rintro e w1 ⟨rfl, kr, hkr, hB1, o1, o2, ⟨cs, hcs, og1, hc0⟩, ot1⟩
  have HB1 : Hid (Below B w w1) := Lib.hid ((HN.out _).trans hB1)
  clear HQ HE HA hB1 HN c0 c1
  have cn := heap_cell o1 0 rfl
  have ct := heap_cell o2 0 rfl
  rcases hkr with ⟨hr, rfl⟩ | ⟨hr, rfl⟩
  · have O1 := Lib.hid o1
    have hT0 : T = 0 := by rw [HT.out]; unfold modV; rw [if_pos hr]
    simp only [Nat.zero_ne_one, decide_false, Bool.false_and] at cn O1
    clear o1 o2 og1 hc0 ot1 hr hcs ct
    go_wp2
    go_ret
    exact ⟨rfl, Or.inl ⟨hT0, _, _, _, O1.out, rfl⟩, HB1.out⟩
  · have hc := hc0 rfl
    cases neg with
    | false =>
      have O1 := Lib.hid o1
      have C := Lib.hid (heap_cell og1 0 hc)
      have hTr : T = P % 1296000000000 := by rw [HT.out]; unfold modV; rw [if_neg hr, if_neg (by simp)]
      rw [← hTr] at C
      clear o1 o2 og1 hc0 ot1 hr hcs hc ct
      go_wp2
      go_ret
      exact ⟨rfl, Or.inr ⟨g, O1.out, C.out⟩, HB1.out⟩
    | true =>
      have A := Lib.hid (add_turn B p pt g gt (P % 1296000000000) (Nat.mod_lt _ (by decide)) w1 cs hc o1 o2 og1 ot1 n2 n4 hBp hBg)
      have hTr : T = 1296000000000 - P % 1296000000000 := by rw [HT.out]; unfold modV; rw [if_neg hr, if_pos rfl]
      rw [← hTr] at A
      clear o1 o2 og1 hc0 ot1 hr hcs hc
      go_wp2_with fail
      refine A.out.mono ?_; rintro e w2 ⟨rfl, hb, h1, h2⟩
      have X := Lib.hid (And.intro hb (And.intro h1 h2))
      clear hb h1 h2 A
      go_wp2
      go_ret
      exact ⟨rfl, Or.inr ⟨g, X.out.2.1, X.out.2.2⟩, HB1.out.trans X.out.1⟩

set_option maxHeartbeats 2000000 in
set_option maxRecDepth 20000 in
theorem mod_0 (B p pt gt : Nat) (w : World) (hB : B ≤ w.heap.size)
    (op : w.heap[p]? = some (.cells #[.bool false, .slice none 0 0] 52))
    (ot : w.heap[pt]? = some (.cells #[.bool false, .slice (some ⟨gt, 0, none⟩) 1 1] 52)) (ogt : w.heap[gt]? = some (.cells #[.int .u64 1296000000000] 71))
    (n2 : p ≠ pt) (hBp : B ≤ p) :
    Calls Tryz.prog 24 #[.pointer (some ⟨p, 0, none⟩), .pointer (some ⟨p, 0, none⟩), .pointer (some ⟨pt, 0, none⟩)] w fun e w' =>
      e = .returned (.pointer (some ⟨p, 0, none⟩)) ∧ Val w' p 0 ∧ Below B w w' := by
  have lp := heap_lt op
  have lt := heap_lt ot
  have lgt := heap_lt ogt
  have HE := fun n => ptr_ne p pt n2 _ _ (w.drewN n) op ot
  have HA : Hid (∀ n, Calls Tryz.prog 40 #[.slice none 0 0, .slice (some ⟨gt, 0, none⟩) 1 1] (w.drewN n) fun e w' => e = .returned (.bool false) ∧ ∃ m, w' = w.drewN m) := Lib.hid (fun n => (alias_0 gt (w.drewN n)).mono (fun e w' ⟨h1, m, h2⟩ => ⟨h1, n + m, by rw [h2, World.drewN_drewN]⟩))
  have HQ : Hid (∀ n, Calls Tryz.prog 42 #[.pointer (some ⟨w.heap.size, 0, none⟩), .pointer (some ⟨p, 0, none⟩), .pointer (some ⟨pt, 0, none⟩), .pointer (some ⟨p, 0, none⟩)] ((w.drewN n).alloc qObj) fun e w' =>
      e = .returned (.tuple #[.pointer (some ⟨w.heap.size, 0, none⟩), .pointer (some ⟨p, 0, none⟩)]) ∧ Below B ((w.drewN n).alloc qObj) w' ∧ w'.heap[p]? = some (.cells #[.bool false, .slice none 0 0] 52)) := Lib.hid (fun n => by
    have ha : ∀ b, b < w.heap.size → ((w.drewN n).alloc qObj).heap[b]? = w.heap[b]? := fun b hb => Below.heap_alloc (w.drewN n) _ b hb
    exact quoRem_0 B p w.heap.size pt gt ((w.drewN n).alloc qObj) ((ha p lp).trans op) (heap_new (w.drewN n) _) ((ha pt lt).trans ot) ((ha gt lgt).trans ogt) (by omega) n2 (by omega) hBp hB)
  have c0 := heap_cell op 1 rfl
  have c1 := heap_cell ot 1 rfl
  have hnn : ∀ n, Below B w ((w.drewN n).alloc qObj) := fun n => (below_drewN (Below.refl B w) n).alloc hB _
  have HN := Lib.hid hnn
  clear op ot ogt hnn lp lt lgt
  go_enter Tryz.func24, Tryz.ntmps24
  go_wp2
  go_quiet (first | (go_at_call 40; exact HA.out _))
  go_wp2_with fail
  refine (HQ.out _).mono ?_; rintro e w1 ⟨rfl, hB1, o1⟩
  have HB1 : Hid (Below B w w1) := Lib.hid ((HN.out _).trans hB1)
  have O1 := Lib.hid o1
  have cn := heap_cell o1 0 rfl
  clear HQ HE HA hB1 HN c0 c1 o1
  go_wp2
  go_ret
  exact ⟨rfl, Or.inl ⟨rfl, _, _, _, O1.out, rfl⟩, HB1.out⟩
end Go.Proofs.YtbafddlkeocpeaaGreatDoor
