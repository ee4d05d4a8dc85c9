/-
  wrap's Unwrap. Conditions: a key of 32 bytes; a text not too long.
-/
import Derived.Test.YtnadgjlmlnhknaaWrapDo
namespace Go.Proofs.Ytnadgjlmlnhknaa
open Go.RowKit

/-- What Unwrap says of the text that comes of it. -/
def UnSays (R : List Nat) (w : World) (e : Ending) (w' : World) : Prop :=
  (∃ v, e = .returned (.tuple #[v, .int .i64 (if R.take 8 = List.replicate 8 166 then 0 else 20)]) ∧ (R.take 8 = List.replicate 8 166 → TextAt w' v (R.drop 8)) ∧ (R.take 8 ≠ List.replicate 8 166 → v = .slice none 0 0)) ∧ Below w.heap.size w w'
theorem unw_left {M n t I : Nat} (h : M = n * t + I) (ht : t < 6) (hn : n ≤ 16) (hI : I ≤ n) : M < 4294967296 ∧ M ≤ 6 * n := by
  have h1 : n * t ≤ n * 5 := Nat.mul_le_mul_left n (by omega)
  omega
theorem un_step {V S0 : Nat → Nat} {n t I M k : Nat} (hM : M = n * t + I) (hI : 1 ≤ I) (hn : I ≤ n) (hk : 6 * n = k + M) : unTo V S0 n (6 * n) (k + 1) = ustep V (unTo V S0 n (6 * n) k) I M := by
  rw [unTo_succ]
  have e1 : 6 * n - 1 - k = n * t + (I - 1) := by omega
  have e2 : 6 * n - k = M := by omega
  rw [e1, e2, Nat.mul_add_mod, Nat.mod_eq_of_lt (by omega), show I - 1 + 1 = I by omega]
theorem take_marks {F : Nat → Nat} {m : Nat} (hm : 8 ≤ m) : (bytesOf F m).take 8 = List.replicate 8 166 ↔ ∀ i, i < 8 → F i = 166 := by
  rw [show (bytesOf F m).take 8 = bytesOf F 8 from by
    unfold bytesOf
    rw [← List.map_take, List.take_range, Nat.min_eq_left hm], show List.replicate 8 166 = bytesOf (fun _ => 166) 8 from rfl]
  constructor
  · intro h i hi
    have := congrArg (fun l => byt l i) h
    simp only [byt_bytesOf F hi, byt_bytesOf (fun _ => 166) hi] at this
    exact this
  · intro h
    exact bytesOf_congr h

set_option maxHeartbeats 4000000 in
set_option maxRecDepth 100000 in
theorem unwrap_any (w : World) (key : List Nat) (hk : key.length = 32) (hs : ∀ x ∈ key, x < 256) (ao : Option Addr) (t : List Nat) (m cap : Nat) (em : t.length = m) (ht : TextAt w (.slice ao m cap) t) (hf : fitsB m 1 = true) :
    Calls Try.prog 37 #[.agg (u8s key), .slice ao m cap] w (UnSays (unL (byt (wordsOf (byt key))) t) w) := by
  obtain ⟨hm8, hm16, hm128⟩ := of_decide_eq_true hf
  obtain ⟨n, en⟩ : ∃ n, m = 8 * n + 8 := ⟨m / 8 - 1, by omega⟩
  have hV := words_lt (key := byt key) (byt_lt hs) 60
  obtain ⟨V, eV⟩ : ∃ V, V = byt (wordsOf (byt key)) := ⟨_, rfl⟩
  have hV' : ∀ i, V i < 256 := fun i => by rw [eV]; exact hV i
  have cf := Lib.hid (fits_any (w.alloc (.cells (u8s key) 23)) m 1 (by omega) (by decide))
  rw [hf] at cf
  have ek : (Try.prog.info? 23).map (·.size) = some (u8s key).size := by
    have e : (Try.prog.info? 23).map (·.size) = some 32 := by kernel_rfl
    rw [e]; simp [u8s, hk]
  have Rk : RowB (w.alloc (.cells (u8s key) 23)) w.heap.size 23 key := heap_alloc_new _ _
  have B0 : Below w.heap.size w (w.alloc (.cells (u8s key) 23)) := (Below.refl _ _).alloc (Nat.le_refl _) _
  have cn := Lib.hid (new_any (w.alloc (.cells (u8s key) 23)) key hk (byt_lt hs))
  rw [← eV] at cn
  obtain ⟨p, ep⟩ : ∃ p, p = n + 1 := ⟨_, rfl⟩
  have q1 : ((m : Int)) / 8 = (p : Int) := by omega
  have q3 : wrap64 (p : Int) = (p : Int) := IntWalk.wrap64_in _ (by omega)
  have q4 : IntKind.i64.wrap ((p : Int) - 1) = (n : Int) := by rw [IntWalk.i64_in _ (by omega)]; omega
  have q5 : wrap64 ((p : Int) - 1) = (n : Int) := by rw [IntWalk.wrap64_in _ (by omega)]; omega
  simp only [show ((1 : Nat) : Int) = 1 from rfl] at cf
  have hrun8 := run_make_u8 m m (Nat.le_refl _) (by omega)
  obtain ⟨ob, oo, rfl⟩ : ∃ ob oo, ao = some ⟨ob, oo, none⟩ := by
    obtain ⟨ao', cap', e, _, _, hby⟩ := ht.ex
    rw [em] at e hby
    obtain ⟨_, ob, oo, e2, _⟩ := hby 0 (by omega)
    injection e with e1
    exact ⟨ob, oo, by rw [e1, e2]⟩
  have hsmall := ht.small
  replace em := Lib.hid em
  replace ht := Lib.hid ht
  replace hf := Lib.hid hf
  replace hm8 := Lib.hid hm8
  replace hm16 := Lib.hid hm16
  replace hm128 := Lib.hid hm128
  replace en := Lib.hid en
  replace hV := Lib.hid hV
  replace hV' := Lib.hid hV'
  replace eV := Lib.hid eV
  replace Rk := Lib.hid Rk
  replace B0 := Lib.hid B0
  replace ep := Lib.hid ep
  replace hsmall := Lib.hid hsmall
  go_enter Try.func37, Try.ntmps37
  go_wp2_with fail
  refine cf.out.mono ?_
  rintro e w0 ⟨rfl, rfl⟩
  go_wp2_with (refine wpList_load_b (by rfl) 23 (.tmp 2) rfl w.heap.size rfl 23 key Rk.out _ Try.underlying23 rfl ek ?_)
  refine cn.out.mono ?_
  rintro e w1 ⟨c, rfl, hc, C1, B1⟩
  have low1 := B0.out.trans (B1.mono B0.out.size)
  have hcw : w.heap.size ≤ c := by have := B0.out.size; omega
  have sz1 := low1.size
  have lc1 := C1.lt
  have o1 : BlkAt (w1.alloc (.cells (u8s (List.replicate m 0)) 5)) w1.heap.size 5 m m (fun _ => 0) :=
    ⟨⟨fun _ => .int .u8 0, ⟨u8s (List.replicate m 0), heap_alloc_new _ _, by simp [u8s], fun i hi => by simp [u8s, hi]⟩, fun j hj => rfl⟩, Nat.le_refl _⟩
  have Ba : Below w1.heap.size w1 (w1.alloc (.cells (u8s (List.replicate m 0)) 5)) := (Below.refl _ _).alloc (Nat.le_refl _) _
  have C2 := C1.below Ba (Nat.le_refl _)
  have low2 := low1.trans (Ba.mono sz1)
  have hgc : w1.heap.size ≠ c := by omega
  have W0 : WrSt w (w1.alloc (.cells (u8s (List.replicate m 0)) 5)) w1.heap.size m m c V (fun _ => 0) := ⟨o1, C2, low2, sz1, hcw, fun _ => by decide⟩
  have tx := ht.out.below low2
  clear cf cn C1 B1 low1 Ba o1 C2 low2
  replace hc := Lib.hid hc
  replace W0 := Lib.hid W0
  replace tx := Lib.hid tx
  replace hcw := Lib.hid hcw
  have src : ∀ j v, (u8l t)[j]? = some v → (w1.alloc (.cells (u8s (List.replicate m 0)) 5)).cell? (Addr.add ⟨ob, oo, none⟩ j) = some v := fun j v hv => by
    obtain ⟨ao', cap', e, _, _, hby⟩ := tx.out.ex
    rw [em.out] at e
    obtain ⟨ad, e1, e2⟩ := hby.news j v hv
    injection e with e3
    rw [e1] at e3
    injection e3 with e3
    rw [e3]; exact e2
  have dst : (w1.alloc (.cells (u8s (List.replicate m 0)) 5)).there w1.heap.size 0 t.length := by rw [em.out]; exact W0.out.o.there (o := 0) (n := m) (by omega)
  replace src := Lib.hid src
  replace dst := Lib.hid dst
  go_wp2_with (refine wpList_copy_cells (by rfl) (.tmp 27) (.tmp 28) 29 29 rfl 5 Try.underlying29 infoU8s w1.heap.size 0 m m m cap ob oo rfl rfl t ?h1 ?h2 ?h3 ?_; case h1 => rw [em.out]; exact (Nat.min_self m).symm
               case h2 => exact src.out
               case h3 => exact dst.out)
  clear src dst
  have W1 := W0.out.setO hgc 0 t hsmall.out
  have eS : putAt (fun _ => 0) 0 t = byt t := by
    funext j
    unfold putAt
    by_cases h : j < t.length
    · rw [if_pos (by omega), Nat.sub_zero]
    · rw [if_neg (by omega), byt_past (by omega)]
  rw [eS] at W1
  generalize hw2 : (w1.alloc (.cells (u8s (List.replicate m 0)) 5)).setCells w1.heap.size 0 (u8l t) = w2 at *
  generalize w1.heap.size = g at *
  clear hrun8 W0 tx hw2 eS
  replace W1 := Lib.hid W1
  go_wp2_with fail
  have hcut8 := run_cut_h (P := Try.prog) Try.underlying29 infoU8s (some ⟨g, 0, none⟩) m m 8 (by have := hm16.out; omega) 8 rfl
  have hcut8l := run_cut_l (P := Try.prog) Try.underlying29 infoU8s (some ⟨g, 0, none⟩) m m 8 (by have := hm16.out; omega) 8 rfl
  rw [cutA_some (by have := hm16.out; omega), Nat.zero_add] at hcut8l
  obtain ⟨S0, eS0⟩ : ∃ S0, S0 = byt t := ⟨_, rfl⟩
  rw [← eS0] at W1
  replace eS0 := Lib.hid eS0
  go_loopw [9] (fun tv wr => ∃ T : Nat, T ≤ 6 ∧ tv = .int .i64 ((T : Int) - 1) ∧ WrSt w wr g m m c V (unTo V S0 n (6 * n) (6 * n - n * T))) (fun tv _ => (intOf tv + 1).toNat)
  case atStart => exact ⟨6, by decide, rfl, by rw [show 6 * n - n * 6 = 0 by omega]; exact W1.out⟩
  case round =>
    obtain ⟨T, hT, rfl, hW⟩ := hrel
    clear W1
    by_cases h0 : T = 0
    · subst h0
      simp only [show (((0 : Nat) : Int) - 1) = -1 from rfl]
      rw [Nat.mul_zero, Nat.sub_zero] at hW
      obtain ⟨S, eS⟩ : ∃ S, S = unTo V S0 n (6 * n) (6 * n) := ⟨_, rfl⟩
      rw [← eS] at hW
      replace hW := Lib.hid hW
      replace eS := Lib.hid eS
      go_wp2_with fail
      obtain ⟨wq, rfl⟩ : ∃ wq : World, wq = wr := ⟨_, rfl⟩
      have hm24 : 24 ≤ m := by have := hm16.out; omega
      have eR : unL (byt (wordsOf (byt key))) t = bytesOf S m := by
        unfold unL
        rw [em.out, ← eV.out, ← eS0.out, show m / 8 - 1 = n by have := en.out; omega, ← eS.out]
      replace eR := Lib.hid eR
      go_loopw [71] (fun jv wr => ∃ j : Nat, j ≤ 8 ∧ jv = .int .i64 j ∧ WrSt w wr g m m c V S ∧ ∀ i, i < j → S i = 166) (fun jv _ => 8 - (intOf jv).toNat)
      case atStart => exact ⟨0, by decide, rfl, hW.out, fun i hi => by omega⟩
      case round =>
        obtain ⟨j, hj, rfl, hQ, hall⟩ := hrel
        clear hW
        by_cases hlt : j < 8
        · have cj := hQ.o.cell (j := j) (by omega)
          have k8 : ((j : Int) < 8) := by omega
          by_cases hx : S j = 166
          · have hall' : ∀ i, i < j + 1 → S i = 166 := fun i hi => by
              by_cases e : i = j
              · subst e; exact hx
              · exact hall i (by omega)
            rw [hx] at cj
            simp only [show ((166 : Nat) : Int) = 166 from rfl] at cj
            replace hQ := Lib.hid hQ
            replace hall := Lib.hid hall
            replace hall' := Lib.hid hall'
            replace hx := Lib.hid hx
            go_wp2_with fail
            go_roundw
            case rel => exact ⟨j + 1, by omega, by go_num, hQ.out, hall'.out⟩
            case measure => simp [intOf]; omega
          · have nb : ¬ ((S j : Int) = 166) := by omega
            have low := hQ.low
            have hne : (unL (byt (wordsOf (byt key))) t).take 8 ≠ List.replicate 8 166 := fun e => by
              rw [eR.out] at e
              exact hx ((take_marks (by omega)).1 e j hlt)
            generalize S j = y at *
            replace hQ := Lib.hid hQ
            replace hall := Lib.hid hall
            replace low := Lib.hid low
            replace hne := Lib.hid hne
            go_wp2_with fail
            go_ret2
            unfold UnSays
            rw [if_neg hne.out]
            exact ⟨⟨_, rfl, fun e => absurd e hne.out, fun _ => rfl⟩, low.out⟩
        · obtain rfl : j = 8 := by omega
          simp only [show ((8 : Nat) : Int) = 8 from rfl]
          have hO := hQ.o.own (base := w.heap.size) hQ.gw (by have := hm128.out; unfold maxLen; omega)
          have hT := hO.text (bytesOf_lt (fun i _ => hQ.s i))
          have lT : (bytesOf S m).length = m := length_bytesOf _ _
          have hT2 := TextAt.cutLo (lo := 8) (by rw [lT]; exact hT) (by rw [lT]; omega)
          rw [lT, cutA_some (by omega), Nat.zero_add] at hT2
          have heq : (unL (byt (wordsOf (byt key))) t).take 8 = List.replicate 8 166 := by
            rw [eR.out]; exact (take_marks (by omega)).2 hall
          have low := hQ.low
          replace hQ := Lib.hid hQ
          replace hall := Lib.hid hall
          replace hO := Lib.hid hO
          replace hT := Lib.hid hT
          replace lT := Lib.hid lT
          replace hT2 := Lib.hid hT2
          replace heq := Lib.hid heq
          replace low := Lib.hid low
          go_wp2_with fail
          go_ret2
          unfold UnSays
          rw [if_pos heq.out, eR.out]
          exact ⟨⟨_, rfl, fun _ => hT2.out, fun e => absurd (by rw [← eR.out]; exact heq.out) e⟩, low.out⟩
    · obtain ⟨t1, rfl⟩ : ∃ t1, T = t1 + 1 := ⟨T - 1, by omega⟩
      have ev : (((t1 + 1 : Nat) : Int) - 1) = (t1 : Int) := by omega
      rw [ev]
      have dge : decide ((t1 : Int) ≥ 0) = true := decide_eq_true (by omega)
      have e0 : 6 * n - n * (t1 + 1) = 6 * n - (n * t1 + n) := by rw [Nat.mul_succ]
      rw [e0] at hW
      replace hW := Lib.hid hW
      replace e0 := Lib.hid e0
      go_wp2_with fail
      obtain ⟨wq, rfl⟩ : ∃ wq : World, wq = wr := ⟨_, rfl⟩
      go_loopw [10] (fun iv wr => ∃ I : Nat, I ≤ n ∧ iv = .int .i64 I ∧ WrSt w wr g m m c V (unTo V S0 n (6 * n) (6 * n - (n * t1 + I)))) (fun iv _ => (intOf iv).toNat)
      case atStart => exact ⟨n, Nat.le_refl _, rfl, hW.out⟩
      case round =>
        obtain ⟨I, hI, rfl, hQ⟩ := hrel
        clear hW
        by_cases hlt : 1 ≤ I
        · have dle : decide ((I : Int) ≥ 1) = true := decide_eq_true (by omega)
          obtain ⟨M, eM⟩ : ∃ M, M = n * t1 + I := ⟨_, rfl⟩
          have hn16 : n ≤ 16 := by have := hm128.out; have := en.out; omega
          obtain ⟨hM, hM6⟩ := unw_left eM (by omega) hn16 hI
          rw [← eM] at hQ
          obtain ⟨k, ek2⟩ : ∃ k, 6 * n = k + M := ⟨6 * n - M, by omega⟩
          have e1 := un_step (V := V) (S0 := S0) eM hlt hI ek2
          have e2 : 6 * n - M = k := by omega
          rw [e2] at hQ
          have e3 : 6 * n - (n * t1 + (I - 1)) = k + 1 := by omega
          obtain ⟨S, eS⟩ : ∃ S, S = unTo V S0 n (6 * n) k := ⟨_, rfl⟩
          rw [← eS] at hQ e1
          have hnk : n * t1 ≤ 16 * 5 := Nat.mul_le_mul hn16 (by omega)
          have f1 : IntKind.i64.wrap ((n : Int) * (t1 : Int)) = ((n * t1 : Nat) : Int) := by rw [IntWalk.i64_in _ (by rw [← Int.natCast_mul]; omega)]; simp
          have f2 : IntKind.i64.wrap (((n * t1 : Nat) : Int) + (I : Int)) = (M : Int) := by rw [IntWalk.i64_in _ (by omega)]; omega
          have f3 : IntKind.i64.wrap ((I : Int) * 8) = 8 * (I : Int) := by rw [IntWalk.i64_in _ (by omega)]; omega
          have h8I : 8 * I + 8 ≤ m := by have := en.out; omega
          have hcutI := run_cut_l (P := Try.prog) Try.underlying29 infoU8s (some ⟨g, 0, none⟩) m m (8 * I) (by omega) (8 * (I : Int)) (by omega)
          rw [cutA_some (by omega), Nat.zero_add] at hcutI
          have X0 : BlkAt (wr.alloc (.cells #[.int .u8 0, .int .u8 0, .int .u8 0, .int .u8 0, .int .u8 0, .int .u8 0, .int .u8 0, .int .u8 0, .int .u8 0, .int .u8 0, .int .u8 0, .int .u8 0, .int .u8 0, .int .u8 0, .int .u8 0, .int .u8 0] 24)) wr.heap.size 24 16 16 (fun _ => 0) := BlkAt.ofRow (show RowB _ _ _ _ from heap_alloc_new _ _)
          have Q0 : WrSt w (wr.alloc (.cells #[.int .u8 0, .int .u8 0, .int .u8 0, .int .u8 0, .int .u8 0, .int .u8 0, .int .u8 0, .int .u8 0, .int .u8 0, .int .u8 0, .int .u8 0, .int .u8 0, .int .u8 0, .int .u8 0, .int .u8 0, .int .u8 0] 24)) g m m c V S := hQ.below ((Below.refl _ _).alloc (Nat.le_refl _) _)
          have hxg : wr.heap.size ≠ g := by have := hQ.o.lt; omega
          have hxc : wr.heap.size ≠ c := by have := hQ.ci.lt; omega
          have hwx : w.heap.size ≤ wr.heap.size := by have := hQ.low.size; omega
          have X1 : BlkAt (wr.alloc (.cells #[.int .u8 0, .int .u8 0, .int .u8 0, .int .u8 0, .int .u8 0, .int .u8 0, .int .u8 0, .int .u8 0, .int .u8 0, .int .u8 0, .int .u8 0, .int .u8 0, .int .u8 0, .int .u8 0, .int .u8 0, .int .u8 0] 24)).drew wr.heap.size 24 16 16 (fun _ => 0) := X0.stay rfl
          have Q1 : WrSt w (wr.alloc (.cells #[.int .u8 0, .int .u8 0, .int .u8 0, .int .u8 0, .int .u8 0, .int .u8 0, .int .u8 0, .int .u8 0, .int .u8 0, .int .u8 0, .int .u8 0, .int .u8 0, .int .u8 0, .int .u8 0, .int .u8 0, .int .u8 0] 24)).drew g m m c V S := Q0.below (Below.refl _ _).drew
          clear X0 Q0 e2 hM6 ev
          replace eM := Lib.hid eM
          replace hnk := Lib.hid hnk
          replace hQ := Lib.hid hQ
          replace e1 := Lib.hid e1
          replace e3 := Lib.hid e3
          replace eS := Lib.hid eS
          replace X1 := Lib.hid X1
          replace Q1 := Lib.hid Q1
          replace hM := Lib.hid hM
          replace ek2 := Lib.hid ek2
          go_wp2_with fail
          generalize (wr.alloc (.cells #[.int .u8 0, .int .u8 0, .int .u8 0, .int .u8 0, .int .u8 0, .int .u8 0, .int .u8 0, .int .u8 0, .int .u8 0, .int .u8 0, .int .u8 0, .int .u8 0, .int .u8 0, .int .u8 0, .int .u8 0, .int .u8 0] 24)) = wa at *
          generalize wr.heap.size = x at *
          have r8 := run_arr_h (P := Try.prog) Try.underlying24 infoU8s x 8 (by decide) 8 rfl (by decide)
          have r8l : ∀ y, (Instr.sliceAt 24 (.pointer (some ⟨x, 0, none⟩)) (some (.int .i64 8)) none none).run Try.prog y = .ok (.slice (some ⟨x, 8, none⟩) 8 8) y := fun y => by kernel_rfl
          refine wp_region_held_drew (S := (fun _ => True)) (by kernel_rfl) (trivial) (fun hHeld => ?_)
          refine held_take (i := 0) (v := ?_) rfl (by kernel_rfl) (by kernel_rfl) (by kernel_rfl) (fun _ _ _ h => h) (Or.inl ⟨by rfl, ?_⟩) (by assumption) ?_
          rotate_left
          · intro w hSw; (try dsimp only at hSw); go_simp; try with_reducible rfl
          try simp only [Act.put, List.setIfInBounds_toArray, List.set_cons_zero, List.set_cons_succ]
          refine held_take (i := 1) (v := ?_) rfl (by kernel_rfl) (by kernel_rfl) (by kernel_rfl) (fun _ _ _ h => h) (Or.inl ⟨by rfl, ?_⟩) (by assumption) ?_
          rotate_left
          · intro w hSw; (try dsimp only at hSw); go_simp; try with_reducible rfl
          try simp only [Act.put, List.setIfInBounds_toArray, List.set_cons_zero, List.set_cons_succ]
          refine held_take (i := 2) (v := ?_) rfl (by kernel_rfl) (by kernel_rfl) (by kernel_rfl) (fun _ _ _ h => h) (Or.inl ⟨by rfl, ?_⟩) (by assumption) ?_
          rotate_left
          · intro w hSw; (try dsimp only at hSw); go_simp; try with_reducible rfl
          try simp only [Act.put, List.setIfInBounds_toArray, List.set_cons_zero, List.set_cons_succ]
          refine held_ready (i := 3) rfl (by kernel_rfl) (fun K hK => ?_)
          rw [if_pos (by rfl)]
          refine step_copy_cells (.tmp 39) (.tmp 41) 29 29 rfl 5 Try.underlying29 infoU8s x 0 16 16 8 m g 0 rfl rfl (bytesOf S 8) (by simp) (Q1.out.o.src0 (n := 8) (by omega)) (by rw [length_bytesOf]; exact X1.out.there (o := 0) (n := 8) (by decide)) ?_
          refine hK.out _ _ (trivial) (fun hHeldN => ?_)
          clear hHeld hK K
          have hHeld := hHeldN
          clear hHeldN
          try simp only [Act.put, List.setIfInBounds_toArray, List.set_cons_zero, List.set_cons_succ]
          refine wpAnyH_done (by kernel_rfl) ?_ _
          clear hHeld
          have X2 := X1.out.setL 0 (bytesOf S 8)
          have Q2 := Q1.out.upd (upd_setCells (b := x) (u8l (bytesOf S 8)) 0 _) hxg hxc hwx
          generalize hwb : wa.drew.setCells x 0 (u8l (bytesOf S 8)) = wb at *
          have X2d : BlkAt wb.drew x 24 16 16 (putAt (fun _ => 0) 0 (bytesOf S 8)) := X2.stay rfl
          have Q2d : WrSt w wb.drew g m m c V S := Q2.below (Below.refl _ _).drew
          clear X1 Q1 hwb X2 Q2
          replace X2d := Lib.hid X2d
          replace Q2d := Lib.hid Q2d
          go_wp2_with fail
          refine wp_region_held_drew (S := (fun _ => True)) (by kernel_rfl) (trivial) (fun hHeld => ?_)
          refine held_take (i := 0) (v := ?_) rfl (by kernel_rfl) (by kernel_rfl) (by kernel_rfl) (fun _ _ _ h => h) (Or.inl ⟨by rfl, ?_⟩) (by assumption) ?_
          rotate_left
          · intro w hSw; (try dsimp only at hSw); go_simp; try with_reducible rfl
          try simp only [Act.put, List.setIfInBounds_toArray, List.set_cons_zero, List.set_cons_succ]
          refine held_take (i := 1) (v := ?_) rfl (by kernel_rfl) (by kernel_rfl) (by kernel_rfl) (fun _ _ _ h => h) (Or.inl ⟨by rfl, ?_⟩) (by assumption) ?_
          rotate_left
          · intro w hSw; (try dsimp only at hSw); go_simp; try with_reducible rfl
          try simp only [Act.put, List.setIfInBounds_toArray, List.set_cons_zero, List.set_cons_succ]
          refine held_take (i := 2) (v := ?_) rfl (by kernel_rfl) (by kernel_rfl) (by kernel_rfl) (fun _ _ _ h => h) (Or.inl ⟨by rfl, ?_⟩) (by assumption) ?_
          rotate_left
          · intro w hSw; (try dsimp only at hSw); go_simp; try with_reducible rfl
          try simp only [Act.put, List.setIfInBounds_toArray, List.set_cons_zero, List.set_cons_succ]
          refine held_take (i := 3) (v := ?_) rfl (by kernel_rfl) (by kernel_rfl) (by kernel_rfl) (fun _ _ _ h => h) (Or.inl ⟨by rfl, ?_⟩) (by assumption) ?_
          rotate_left
          · intro w hSw; (try dsimp only at hSw); go_simp; try with_reducible rfl
          try simp only [Act.put, List.setIfInBounds_toArray, List.set_cons_zero, List.set_cons_succ]
          refine held_take (i := 4) (v := ?_) rfl (by kernel_rfl) (by kernel_rfl) (by kernel_rfl) (fun _ _ _ h => h) (Or.inl ⟨by rfl, ?_⟩) (by assumption) ?_
          rotate_left
          · intro w hSw; (try dsimp only at hSw); go_simp; try with_reducible rfl
          try simp only [Act.put, List.setIfInBounds_toArray, List.set_cons_zero, List.set_cons_succ]
          refine held_ready (i := 5) rfl (by kernel_rfl) (fun K hK => ?_)
          rw [if_pos (by rfl)]
          refine step_copy_cells (.tmp 43) (.tmp 47) 29 29 rfl 5 Try.underlying29 infoU8s x 8 8 8 (m - 8 * I) (m - 8 * I) g (8 * I) rfl rfl (bytesOf (fun j => S (8 * I + j)) 8) (by rw [length_bytesOf]; exact (Nat.min_eq_right (by omega)).symm) (Q2d.out.o.src (o := 8 * I) (n := 8) (by omega)) (by rw [length_bytesOf]; exact X2d.out.there (o := 8) (n := 8) (by decide)) ?_
          refine hK.out _ _ (trivial) (fun hHeldN => ?_)
          clear hHeld hK K
          have hHeld := hHeldN
          clear hHeldN
          try simp only [Act.put, List.setIfInBounds_toArray, List.set_cons_zero, List.set_cons_succ]
          refine wpAnyH_done (by kernel_rfl) ?_ _
          clear hHeld
          have X3 := (X2d.out.setL 8 (bytesOf (fun j => S (8 * I + j)) 8)).congr (wblk_put (S := S) (i := I))
          have Q3 := Q2d.out.upd (upd_setCells (b := x) (u8l (bytesOf (fun j => S (8 * I + j)) 8)) 8 _) hxg hxc hwx
          generalize hwc : wb.drew.setCells x 8 (u8l (bytesOf (fun j => S (8 * I + j)) 8)) = wc at *
          clear X2d Q2d hwc
          have bX := wblk_lt Q3.s I
          replace Q3 := Lib.hid Q3
          replace bX := Lib.hid bX
          go_wp2_with fail
          rw [wrap_idx (n := n) (k := t1) (I := I) (M := M) eM.out hM.out]
          refine (mix_any wc x 24 M _ X3 bX.out hM.out).mono ?_
          rintro e wd ⟨rfl, X4, U4⟩
          have Q4 := Q3.out.upd U4 hxg hxc hwx
          have bY := wmix_lt bX.out M
          have eY : wput S I (backF V (wmix (wblk S I) M)) = ustep V S I M := by rw [ustep_def]
          clear X3 U4 Q3
          generalize wmix (wblk S I) M = Y at *
          have r4 := X4.row
          have i4 := info16 Y
          have ct := Lib.hid (back_any Q4.ci hV'.out Y bY)
          have bZ := bytes_back (W := V) hV'.out bY
          clear f1 f2
          replace X4 := Lib.hid X4
          replace Q4 := Lib.hid Q4
          replace bY := Lib.hid bY
          replace r4 := Lib.hid r4
          replace eY := Lib.hid eY
          replace bZ := Lib.hid bZ
          go_wp2_with (refine wpList_load_b (by rfl) 24 (.tmp 11) rfl x rfl 24 (tab Y) ?hh _ Try.underlying24 rfl i4 ?_; case hh => exact r4.out)
          refine ct.out.mono ?_
          clear ct
          rintro e we ⟨rfl, Be⟩
          have X5 := X4.out.below Be X4.out.lt
          have Q5 := Q4.out.below Be
          have r5 := X5.row
          clear X4 Q4 r4 Be
          obtain ⟨Z, eZ⟩ : ∃ Z, Z = backF V Y := ⟨_, rfl⟩
          rw [← eZ] at bZ eY ⊢
          have i5 := info16 Z
          replace X5 := Lib.hid X5
          replace Q5 := Lib.hid Q5
          replace r5 := Lib.hid r5
          replace eZ := Lib.hid eZ
          go_wp2_with (first
            | (refine wpList_store_s (by rfl) 24 (.tmp 11) (.tmp 58) rfl x (tab Z) rfl rfl 24 (u8s (tab Y)) ?hh i5 (by rw [size_tab, size_tab]) ?_; case hh => exact r5.out
               intro wf Re Ue)
            | (refine wpList_copy_cells (by rfl) (.tmp 59) (.tmp 60) 29 29 rfl 5 Try.underlying29 infoU8s g 0 m m 8 16 x 0 rfl rfl (bytesOf Z 8) ?h1 ?h2 ?h3 ?_; case h1 => rw [length_bytesOf]; exact (Nat.min_eq_left (by omega)).symm
               case h2 => exact (BlkAt.ofRow Re.out).src0 (n := 8) (by decide)
               case h3 => rw [length_bytesOf]; exact (Q5.out.upd Ue.out hxg hxc hwx).o.there (o := 0) (n := 8) (by omega)))
          have X6 := Lib.hid (BlkAt.ofRow Re.out)
          have Q6 := Lib.hid (Q5.out.upd Ue.out hxg hxc hwx)
          have bZ1 : ∀ v ∈ bytesOf Z 8, v < 256 := bytesOf_lt fun i hi => bZ.out i (by omega)
          have bZ2 : ∀ v ∈ bytesOf (fun j => Z (8 + j)) 8, v < 256 := bytesOf_lt fun i hi => bZ.out (8 + i) (by omega)
          have Q7 := Q6.out.setO hgc 0 (bytesOf Z 8) bZ1
          have X7 := X6.out.stay ((upd_setCells (b := g) (u8l (bytesOf Z 8)) 0 wf).block x X6.out.lt hxg)
          generalize hwg : wf.setCells g 0 (u8l (bytesOf Z 8)) = wg at *
          have X7d : BlkAt wg.drew x 24 16 16 Z := X7.stay rfl
          have Q7d : WrSt w wg.drew g m m c V (putAt S 0 (bytesOf Z 8)) := Q7.below (Below.refl _ _).drew
          clear X6 Q6 hwg X7 Q7 Re Ue X5 Q5 r5
          replace X7d := Lib.hid X7d
          replace Q7d := Lib.hid Q7d
          replace bZ1 := Lib.hid bZ1
          replace bZ2 := Lib.hid bZ2
          refine wp_region_held_drew (S := (fun _ => True)) (by kernel_rfl) (trivial) (fun hHeld => ?_)
          refine held_take (i := 0) (v := ?_) rfl (by kernel_rfl) (by kernel_rfl) (by kernel_rfl) (fun _ _ _ h => h) (Or.inl ⟨by rfl, ?_⟩) (by assumption) ?_
          rotate_left
          · intro w hSw; (try dsimp only at hSw); go_simp; try with_reducible rfl
          try simp only [Act.put, List.setIfInBounds_toArray, List.set_cons_zero, List.set_cons_succ]
          refine held_take (i := 1) (v := ?_) rfl (by kernel_rfl) (by kernel_rfl) (by kernel_rfl) (fun _ _ _ h => h) (Or.inl ⟨by rfl, ?_⟩) (by assumption) ?_
          rotate_left
          · intro w hSw; (try dsimp only at hSw); go_simp; try with_reducible rfl
          try simp only [Act.put, List.setIfInBounds_toArray, List.set_cons_zero, List.set_cons_succ]
          refine held_take (i := 2) (v := ?_) rfl (by kernel_rfl) (by kernel_rfl) (by kernel_rfl) (fun _ _ _ h => h) (Or.inl ⟨by rfl, ?_⟩) (by assumption) ?_
          rotate_left
          · intro w hSw; (try dsimp only at hSw); go_simp; try with_reducible rfl
          try simp only [Act.put, List.setIfInBounds_toArray, List.set_cons_zero, List.set_cons_succ]
          refine held_take (i := 3) (v := ?_) rfl (by kernel_rfl) (by kernel_rfl) (by kernel_rfl) (fun _ _ _ h => h) (Or.inl ⟨by rfl, ?_⟩) (by assumption) ?_
          rotate_left
          · intro w hSw; (try dsimp only at hSw); go_simp; try with_reducible rfl
          try simp only [Act.put, List.setIfInBounds_toArray, List.set_cons_zero, List.set_cons_succ]
          refine held_take (i := 4) (v := ?_) rfl (by kernel_rfl) (by kernel_rfl) (by kernel_rfl) (fun _ _ _ h => h) (Or.inl ⟨by rfl, ?_⟩) (by assumption) ?_
          rotate_left
          · intro w hSw; (try dsimp only at hSw); go_simp; try with_reducible rfl
          try simp only [Act.put, List.setIfInBounds_toArray, List.set_cons_zero, List.set_cons_succ]
          refine held_ready (i := 5) rfl (by kernel_rfl) (fun K hK => ?_)
          rw [if_pos (by rfl)]
          refine step_copy_cells (.tmp 65) (.tmp 66) 29 29 rfl 5 Try.underlying29 infoU8s g (8 * I) (m - 8 * I) (m - 8 * I) 8 8 x 8 rfl rfl (bytesOf (fun j => Z (8 + j)) 8) (by rw [length_bytesOf]; exact (Nat.min_eq_left (by omega)).symm) (X7d.out.src (o := 8) (n := 8) (by decide)) (by rw [length_bytesOf]; exact Q7d.out.o.there (o := 8 * I) (n := 8) (by omega)) ?_
          refine hK.out _ _ (trivial) (fun hHeldN => ?_)
          clear hHeld hK K
          have hHeld := hHeldN
          clear hHeldN
          try simp only [Act.put, List.setIfInBounds_toArray, List.set_cons_zero, List.set_cons_succ]
          refine wpAnyH_done (by kernel_rfl) ?_ _
          clear hHeld
          have Q8 := Q7d.out.setO hgc (8 * I) (bytesOf (fun j => Z (8 + j)) 8) bZ2.out
          rw [wput_put hlt, eY.out, ← e1.out, ← e3.out] at Q8
          have eI : ((I : Int) - 1) = ((I - 1 : Nat) : Int) := by omega
          replace Q8 := Lib.hid Q8
          go_wp2_with fail
          go_roundw
          case rel => exact ⟨I - 1, by omega, by go_num, Q8.out⟩
          case measure => simp [intOf]; omega
        · obtain rfl : I = 0 := by omega
          simp only [Int.natCast_zero]
          rw [Nat.add_zero] at hQ
          replace hQ := Lib.hid hQ
          go_wp2_with fail
          go_roundw
          case rel => exact ⟨t1, by omega, by go_num, hQ.out⟩
          case measure => simp [intOf] <;> omega
end Go.Proofs.Ytnadgjlmlnhknaa
