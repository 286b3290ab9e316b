/- bytes.Repeat, at one byte; buffers that are filled from the front. -/
import Derived.Test.YtjcmpkkflboaoaaGreatDoorByt
import Derived.Test.YtjcmpkkflboaoaaGreatDoorShelf
import Derived.Lib.SlBuf
import Derived.Lib.MakeNoZero
import Derived.Laws.Externs
import Derived.Laws.CopyOwn
namespace Go.Proofs.YtjcmpkkflboaoaaGreatDoor
open Go.RowKit

/-- copy as one step of a region that draws its order, its run known by an equation. -/
theorem step_copy_eq {P : Program} {ops : Array Oper} {o : Oper} {a : Act} {w : World} {K : Act → World → Prop} {Q : Exit → Act → World → Prop} {E : Prop} (hgd : o.guard = none) (d s : Operand) (t t' : TypeId)
    (ho : o.op = .call { callee := .builtin .copy, args := #[d, s], argTypes := #[t, t'] }) (v u : Value) (hd : a.eval d = v) (hs : a.eval s = u) {v' : Value} {w' : World}
    (hr : (Builtin.copy_ #[t, t'] o.type #[v, u]).run P w = .ok v' w') (h : K (a.put o.dst v') w') :
    if Region.wanted o (yielded ops a.tmps) = true then Oper.wp P o a w K Q else E := by
  have hw : Region.wanted o (yielded ops a.tmps) = true := by simp [Region.wanted, hgd]
  rw [if_pos hw]
  exact Lib.wp_copy_run w d s t t' ho v u hd hs hr h
theorem Buf_drew {w0 wr : World} {h N : Nat} {acc : List UInt8} (hb : Lib.Buf w0 wr h N acc) : Lib.Buf w0 wr.drew h N acc :=
  ⟨hb.below.drew, fun j hj => by simpa using hb.there j hj, fun j hj => by simpa using hb.free j hj, fun j x hx => by simpa using hb.holds j x hx, hb.fits⟩
/-- copy behind what is filled, whatever the source. -/
theorem Buf_put {w0 wr : World} {h N : Nat} {acc : List UInt8} (hb : Lib.Buf w0 wr h N acc) (l : List UInt8) (a : Addr) (dLen dCap sLen sCap : Nat) (ty : TypeId) (hn : l.length = Nat.min sLen dLen) (hfit : acc.length + l.length ≤ N)
    (hsrc : ∀ (j : Nat) x, l[j]? = some x → wr.cell? (a.add j) = some (.int .u8 (x.toNat : Int))) :
    ∃ wr', (Builtin.copy_ #[27, 27] ty #[.slice (some ⟨h, acc.length, none⟩) dLen dCap, .slice (some a) sLen sCap]).run Tryz.prog wr = .ok (.int .i64 (l.length : Int)) wr' ∧ Lib.Buf w0 wr' h N (acc ++ l) := by
  have hr := run_copy_cells (P := Tryz.prog) wr 27 27 ty 5 h acc.length dLen dCap a sLen sCap (encB l) Tryz.underlying27 (by kernel_rfl) (by rw [encB_len]; exact hn)
    (fun j u hj => by
      unfold encB at hj
      rw [List.getElem?_map] at hj
      obtain ⟨x, hx, rfl⟩ := Option.map_eq_some_iff.1 hj
      exact hsrc j x hx)
    (fun j hj => by rw [encB_len] at hj; exact hb.there _ (by omega)) (fun j hj => by rw [encB_len] at hj; exact hb.free _ (by omega)) (encB_cells l)
  rw [encB_len] at hr
  refine ⟨_, hr, ?_⟩
  have hin := World.cell?_setCells_in h (encB l) acc.length wr (fun j hj => by rw [encB_len] at hj; exact hb.there _ (by omega))
  have hout := World.cell?_setCells_out h (encB l) acc.length wr
  refine ⟨Lib.below_setCells h (Nat.le_refl _) _ _ hb.below, ?_, ?_, ?_, by rw [List.length_append]; exact hfit⟩
  · intro j hj
    by_cases h1 : acc.length ≤ j ∧ j < acc.length + l.length
    · obtain ⟨d, rfl⟩ : ∃ d, j = acc.length + d := ⟨j - acc.length, by omega⟩
      rw [hin d (by rw [encB_len]; omega)]
      rfl
    · rw [hout ⟨h, j, none⟩ (fun _ _ => by rw [encB_len]; show j < _ ∨ _ ≤ j; omega)]
      exact hb.there j hj
  · intro j hj
    rw [World.frozen?_setCells]
    exact hb.free j hj
  · intro j x hx
    by_cases h1 : j < acc.length
    · rw [List.getElem?_append_left h1] at hx
      rw [hout ⟨h, j, none⟩ (fun _ _ => Or.inl h1)]
      exact hb.holds j x hx
    · rw [List.getElem?_append_right (by omega)] at hx
      obtain ⟨d, rfl⟩ : ∃ d, j = acc.length + d := ⟨j - acc.length, by omega⟩
      rw [Nat.add_sub_cancel_left] at hx
      have hd : d < l.length := (List.getElem?_eq_some_iff.1 hx).1
      rw [hin d (by rw [encB_len]; exact hd)]
      unfold encB
      simp [List.getElem_map, (List.getElem?_eq_some_iff.1 hx).2]
theorem Buf_rep {w0 wr : World} {h N k : Nat} {c : UInt8} (hb : Lib.Buf w0 wr h N (List.replicate k c)) (m dLen dCap sLen sCap : Nat) (ty : TypeId) (hm : m ≤ k) (hn : m = Nat.min sLen dLen) (hfit : k + m ≤ N) :
    ∃ wr', (Builtin.copy_ #[27, 27] ty #[.slice (some ⟨h, k, none⟩) dLen dCap, .slice (some ⟨h, 0, none⟩) sLen sCap]).run Tryz.prog wr = .ok (.int .i64 (m : Int)) wr' ∧ Lib.Buf w0 wr' h N (List.replicate (k + m) c) := by
  have e := Buf_put hb (List.replicate m c) ⟨h, 0, none⟩ dLen dCap sLen sCap ty (by rw [List.length_replicate]; exact hn) (by rw [List.length_replicate, List.length_replicate]; exact hfit) (fun j x hx => by
    rw [List.getElem?_replicate] at hx
    split at hx
    · rename_i hj
      rw [add_litB, Nat.zero_add]
      exact hb.holds j x (by rw [List.getElem?_replicate, if_pos (by omega)]; exact hx)
    · cases hx)
  rw [List.length_replicate, List.length_replicate, List.replicate_append_replicate] at e
  exact e
set_option maxRecDepth 20000 in
set_option maxHeartbeats 400000 in
theorem repeat_any (c : UInt8) (n q cap : Nat) (h1 : 1 ≤ n) (h2 : n ≤ 8192) (w : World) (hq : w.cell? ⟨q, 0, none⟩ = some (.int .u8 (c.toNat : Int))) :
    Calls Tryz.prog 44 #[.slice (some ⟨q, 0, none⟩) 1 cap, .int .i64 n] w fun e w' => e = .returned (.slice (some ⟨w.heap.size, 0, none⟩) n n) ∧ Hid (Lib.Buf w w' w.heap.size n (List.replicate n c)) := by
  have HM : Hid (Calls Tryz.prog 45 #[.int .u64 1, .int .u64 n] w fun e w' => e = .returned (.tuple #[.int .u64 0, .int .u64 n]) ∧ w' = w) := Lib.hid (by
    have := Tryz.bits_Mul 1 n (by decide) (by omega) w
    rw [Nat.one_mul, Nat.div_eq_of_lt (by omega), Nat.mod_eq_of_lt (by omega)] at this
    exact this)
  obtain ⟨cs, hrunM, hle, _⟩ := Lib.run_makeNoZero (P := Tryz.prog) w #[3] 27 5 Tryz.underlying27 n (by omega)
  have hcall : (callFunc 65 #[.int .i64 (n : Int)]).run Tryz.prog w = .ok (.value (.slice (some ⟨w.heap.size, 0, none⟩) n cs.size)) ((w.alloc (.cells cs 5)).drewN 2) := by
    rw [run_callFunc_extern Tryz.func65 (by kernel_rfl) (by kernel_rfl) (by kernel_rfl) (e := Extern.BytealgMakeNoZero.makeNoZero #[3] #[27]) (by kernel_rfl), hrunM]
    rfl
  clear hrunM
  have B0 := Lib.Buf.start w cs 5 n 2 hle
  have hql := cell_lt hq
  obtain ⟨w1, hr1, B1⟩ := Buf_put B0 [c] ⟨q, 0, none⟩ n n 1 cap 3 (Nat.min_eq_left h1).symm (by simpa using h1) (fun j x hx => by
    have hj : j = 0 := by
      have := (List.getElem?_eq_some_iff.1 hx).1
      simp at this
      exact this
    subst hj
    obtain rfl : c = x := Option.some.inj hx
    rw [add_litB, Nat.add_zero, B0.below.cell (p := ⟨q, 0, none⟩) hql]
    exact hq)
  rw [List.length_nil, show [c].length = 1 from rfl] at hr1
  have d1 : decide ((n : Int) < 0) = false := decide_eq_false (by omega)
  have d2 : decide ((9223372036854775807 : Int) < (n : Int)) = false := decide_eq_false (by omega)
  have d3 : decide ((8192 : Int) < (n : Int)) = false := decide_eq_false (by omega)
  have HB1 : Hid (Lib.Buf w w1 w.heap.size n (List.replicate 1 c)) := Lib.hid B1
  clear B0 B1 hq
  have i1 : (n : Int) ≤ (cs.size : Int) := by omega
  have e0 : ((n : Int) == 0) = false := beq_eq_false_iff_ne.2 (by omega)
  go_enter Tryz.func44, Tryz.ntmps44
  go_wp2_with fail
  refine HM.out.mono ?_; rintro e w' ⟨rfl, hw⟩; rw [hw]
  clear hw HM
  go_wp2_with (at_builtin; refine Lib.wpList_copy_run _ rfl _ _ 27 27 rfl _ _ rfl rfl hr1 ?_)
  clear hr1 hcall d1 d2 d3
  go_loopw [10] (fun v wr => ∃ k : Nat, 1 ≤ k ∧ k ≤ n ∧ v = .int .i64 k ∧ Hid (Lib.Buf w wr w.heap.size n (List.replicate k c))) (fun v _ => n - (intOf v).toNat)
  case atStart => exact ⟨1, Nat.le_refl _, h1, rfl, HB1⟩
  case round =>
    clear HB1
    obtain ⟨k, hk1, hk, rfl, HB⟩ := hrel
    by_cases hlt : k < n
    · have b1 : (0 : Int) ≤ (k : Int) := by omega
      have b2 : (k : Int) ≤ (n : Int) := by omega
      have b3 : ¬ n = k := by omega
      have b4 : (k : Int) < (n : Int) := by omega
      have b5 : min (k : Int) (n : Int) = (k : Int) := by omega
      obtain ⟨m, hm⟩ : ∃ m, Nat.min k (n - k) = m := ⟨_, rfl⟩
      have hm1 : m ≤ k ∧ k + m ≤ n ∧ 1 ≤ m := by
        have : m = min k (n - k) := hm.symm
        omega
      have HR := Lib.hid (Buf_rep (Buf_drew HB.out) m (n - k) (n - k) k n 3 hm1.1 hm.symm hm1.2.1)
      obtain ⟨w2, hr2, B2⟩ := HR.out
      have HB2 := Lib.hid B2
      clear HR B2 HB hm
      obtain ⟨m1, m2, m3⟩ := hm1
      go_wp2
      go_region_law (refine step_copy_eq (by rfl) (.tmp 70) (.tmp 73) 27 27 (by rfl) (.slice (some ⟨w.heap.size, k, none⟩) (n - k) (n - k)) (.slice (some ⟨w.heap.size, 0, none⟩) k n) (by simp [Act.eval, Act.put]) (by simp [Act.eval, Act.put]) hr2 ?_)
      all_goals
        have e6 : IntKind.i64.wrap ((k : Int) + (m : Int)) = (k : Int) + (m : Int) := IntWalk.i64_in _ (by omega)
        go_simp
        dsimp (config := { zetaDelta := true }) only [Exit.then]
        go_roundw
        case rel => exact ⟨k + m, by omega, by omega, by go_num, HB2⟩
        case measure => simp [intOf]; omega
    · obtain rfl : k = n := by omega
      go_wp2
      go_ret
      exact ⟨rfl, HB⟩
end Go.Proofs.YtjcmpkkflboaoaaGreatDoor
