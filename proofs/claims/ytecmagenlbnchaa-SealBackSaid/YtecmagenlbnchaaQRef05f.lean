/-
  wrap's Unwrap. Conditions: a key of 32 bytes; a text not too long.
  The reference of layer 6: Double, Tweak. Conditions: sixteen bytes; a stamp of 64 digits.
  The reference of layer 5: xored, boxed, rows. Conditions: texts not too long.
  The reference of layer 5: rows, column, columns, round. Conditions: blocks of sixteen bytes.
  The reference of layer 5: Turn and Back. Conditions: the cipher lies still; a block of sixteen bytes.
  The reference of layer 5: Back. Conditions: the cipher lies still; a block of sixteen bytes.
  The reference's gf: Power, Inverse, Unbox. Conditions: bytes below 256.
  The reference's gf: digits, byteOf, Box, Boxes. Conditions: bytes below 256.
  The reference of layer 5: New. Conditions: a key of 32 bytes.
  The reference of layer 5: New, walked. Conditions: a key of 32 bytes.
-/
import Derived.Test.YtecmagenlbnchaaQWrapDo
import Derived.Test.YtecmagenlbnchaaQXtsDouble
import Derived.Test.YtecmagenlbnchaaQHeld
import Derived.Test.YtecmagenlbnchaaQGfRef
import Derived.Test.YtecmagenlbnchaaQAesCols
import Derived.Test.YtecmagenlbnchaaQAesBack
import Derived.Test.YtecmagenlbnchaaQAesVec
namespace Go.Proofs.Ytecmagenlbnchaa
set_option maxRecDepth 100000
open Go.RowKit

/-- What Unwrap says of the text that comes of it. -/
def UnSays (R : List Nat) (w : World) (e : Ending) (w' : World) : Prop :=
  (∃ v, e = .returned (.tuple #[v, .int .i64 (if R.take 8 = List.replicate 8 166 then 0 else 20)]) ∧ (R.take 8 = List.replicate 8 166 → TextAt w' v (R.drop 8)) ∧ (R.take 8 ≠ List.replicate 8 166 → v = .slice none 0 0)) ∧ Below w.heap.size w w'
theorem unw_left {M n t I : Nat} (h : M = n * t + I) (ht : t < 6) (hn : n ≤ 16) (hI : I ≤ n) : M < 4294967296 ∧ M ≤ 6 * n := by
  have h1 : n * t ≤ n * 5 := Nat.mul_le_mul_left n (by omega)
  omega
theorem un_step {V S0 : Nat → Nat} {n t I M k : Nat} (hM : M = n * t + I) (hI : 1 ≤ I) (hn : I ≤ n) (hk : 6 * n = k + M) : unTo V S0 n (6 * n) (k + 1) = ustep V (unTo V S0 n (6 * n) k) I M := by
  rw [unTo_succ]
  have e1 : 6 * n - 1 - k = n * t + (I - 1) := by omega
  have e2 : 6 * n - k = M := by omega
  rw [e1, e2, Nat.mul_add_mod, Nat.mod_eq_of_lt (by omega), show I - 1 + 1 = I by omega]
theorem take_marks {F : Nat → Nat} {m : Nat} (hm : 8 ≤ m) : (bytesOf F m).take 8 = List.replicate 8 166 ↔ ∀ i, i < 8 → F i = 166 := by
  rw [show (bytesOf F m).take 8 = bytesOf F 8 from by
    unfold bytesOf
    rw [← List.map_take, List.take_range, Nat.min_eq_left hm], show List.replicate 8 166 = bytesOf (fun _ => 166) 8 from rfl]
  constructor
  · intro h i hi
    have := congrArg (fun l => byt l i) h
    simp only [byt_bytesOf F hi, byt_bytesOf (fun _ => 166) hi] at this
    exact this
  · intro h
    exact bytesOf_congr h

set_option maxHeartbeats 4000000 in
set_option maxRecDepth 100000 in
theorem unwrap_any (w : World) (key : List Nat) (hk : key.length = 32) (hs : ∀ x ∈ key, x < 256) (ao : Option Addr) (t : List Nat) (m cap : Nat) (em : t.length = m) (ht : TextAt w (.slice ao m cap) t) (hf : fitsB m 1 = true) :
    Calls Try.prog 44 #[.agg (u8s key), .slice ao m cap] w (UnSays (unL (byt (wordsOf (byt key))) t) w) := by
  obtain ⟨hm8, hm16, hm128⟩ := of_decide_eq_true hf
  obtain ⟨n, en⟩ : ∃ n, m = 8 * n + 8 := ⟨m / 8 - 1, by omega⟩
  have hV := words_lt (key := byt key) (byt_lt hs) 60
  obtain ⟨V, eV⟩ : ∃ V, V = byt (wordsOf (byt key)) := ⟨_, rfl⟩
  have hV' : ∀ i, V i < 256 := fun i => by rw [eV]; exact hV i
  have cf := Lib.hid (fits_any (w.alloc (.cells (u8s key) 23)) m 1 (by omega) (by decide))
  rw [hf] at cf
  have ek : (Try.prog.info? 23).map (·.size) = some (u8s key).size := by
    have e : (Try.prog.info? 23).map (·.size) = some 32 := by kernel_rfl
    rw [e]; simp [u8s, hk]
  have Rk : RowB (w.alloc (.cells (u8s key) 23)) w.heap.size 23 key := heap_alloc_new _ _
  have B0 : Below w.heap.size w (w.alloc (.cells (u8s key) 23)) := (Below.refl _ _).alloc (Nat.le_refl _) _
  have cn := Lib.hid (new_any (w.alloc (.cells (u8s key) 23)) key hk (byt_lt hs))
  rw [← eV] at cn
  obtain ⟨p, ep⟩ : ∃ p, p = n + 1 := ⟨_, rfl⟩
  have q1 : ((m : Int)) / 8 = (p : Int) := by omega
  have q3 : wrap64 (p : Int) = (p : Int) := IntWalk.wrap64_in _ (by omega)
  have q4 : IntKind.i64.wrap ((p : Int) - 1) = (n : Int) := by rw [IntWalk.i64_in _ (by omega)]; omega
  have q5 : wrap64 ((p : Int) - 1) = (n : Int) := by rw [IntWalk.wrap64_in _ (by omega)]; omega
  simp only [show ((1 : Nat) : Int) = 1 from rfl] at cf
  have hrun8 := run_make_u8 m m (Nat.le_refl _) (by omega)
  obtain ⟨ob, oo, rfl⟩ : ∃ ob oo, ao = some ⟨ob, oo, none⟩ := by
    obtain ⟨ao', cap', e, _, _, hby⟩ := ht.ex
    rw [em] at e hby
    obtain ⟨_, ob, oo, e2, _⟩ := hby 0 (by omega)
    injection e with e1
    exact ⟨ob, oo, by rw [e1, e2]⟩
  have hsmall := ht.small
  replace em := Lib.hid em
  replace ht := Lib.hid ht
  replace hf := Lib.hid hf
  replace hm8 := Lib.hid hm8
  replace hm16 := Lib.hid hm16
  replace hm128 := Lib.hid hm128
  replace en := Lib.hid en
  replace hV := Lib.hid hV
  replace hV' := Lib.hid hV'
  replace eV := Lib.hid eV
  replace Rk := Lib.hid Rk
  replace B0 := Lib.hid B0
  replace ep := Lib.hid ep
  replace hsmall := Lib.hid hsmall
  go_enter Try.func44, Try.ntmps44
  go_wp2_with fail
  refine cf.out.mono ?_
  rintro e w0 ⟨rfl, rfl⟩
  go_wp2_with (refine wpList_load_b (by rfl) 23 (.tmp 2) rfl w.heap.size rfl 23 key Rk.out _ Try.underlying23 rfl ek ?_)
  refine cn.out.mono ?_
  rintro e w1 ⟨c, rfl, hc, C1, B1⟩
  have low1 := B0.out.trans (B1.mono B0.out.size)
  have hcw : w.heap.size ≤ c := by have := B0.out.size; omega
  have sz1 := low1.size
  have lc1 := C1.lt
  have o1 : BlkAt (w1.alloc (.cells (u8s (List.replicate m 0)) 5)) w1.heap.size 5 m m (fun _ => 0) :=
    ⟨⟨fun _ => .int .u8 0, ⟨u8s (List.replicate m 0), heap_alloc_new _ _, by simp [u8s], fun i hi => by simp [u8s, hi]⟩, fun j hj => rfl⟩, Nat.le_refl _⟩
  have Ba : Below w1.heap.size w1 (w1.alloc (.cells (u8s (List.replicate m 0)) 5)) := (Below.refl _ _).alloc (Nat.le_refl _) _
  have C2 := C1.below Ba (Nat.le_refl _)
  have low2 := low1.trans (Ba.mono sz1)
  have hgc : w1.heap.size ≠ c := by omega
  have W0 : WrSt w (w1.alloc (.cells (u8s (List.replicate m 0)) 5)) w1.heap.size m m c V (fun _ => 0) := ⟨o1, C2, low2, sz1, hcw, fun _ => by decide⟩
  have tx := ht.out.below low2
  clear cf cn C1 B1 low1 Ba o1 C2 low2
  replace hc := Lib.hid hc
  replace W0 := Lib.hid W0
  replace tx := Lib.hid tx
  replace hcw := Lib.hid hcw
  have src : ∀ j v, (u8l t)[j]? = some v → (w1.alloc (.cells (u8s (List.replicate m 0)) 5)).cell? (Addr.add ⟨ob, oo, none⟩ j) = some v := fun j v hv => by
    obtain ⟨ao', cap', e, _, _, hby⟩ := tx.out.ex
    rw [em.out] at e
    obtain ⟨ad, e1, e2⟩ := hby.news j v hv
    injection e with e3
    rw [e1] at e3
    injection e3 with e3
    rw [e3]; exact e2
  have dst : (w1.alloc (.cells (u8s (List.replicate m 0)) 5)).there w1.heap.size 0 t.length := by rw [em.out]; exact W0.out.o.there (o := 0) (n := m) (by omega)
  replace src := Lib.hid src
  replace dst := Lib.hid dst
  go_wp2_with (refine wpList_copy_cells (by rfl) (.tmp 27) (.tmp 28) 25 25 rfl 5 Try.underlying25 infoU8s w1.heap.size 0 m m m cap ob oo rfl rfl t ?h1 ?h2 ?h3 ?_; case h1 => rw [em.out]; exact (Nat.min_self m).symm
               case h2 => exact src.out
               case h3 => exact dst.out)
  clear src dst
  have W1 := W0.out.setO hgc 0 t hsmall.out
  have eS : putAt (fun _ => 0) 0 t = byt t := by
    funext j
    unfold putAt
    by_cases h : j < t.length
    · rw [if_pos (by omega), Nat.sub_zero]
    · rw [if_neg (by omega), byt_past (by omega)]
  rw [eS] at W1
  generalize hw2 : (w1.alloc (.cells (u8s (List.replicate m 0)) 5)).setCells w1.heap.size 0 (u8l t) = w2 at *
  generalize w1.heap.size = g at *
  clear hrun8 W0 tx hw2 eS
  replace W1 := Lib.hid W1
  go_wp2_with fail
  have hcut8 := run_cut_h (P := Try.prog) Try.underlying25 infoU8s (some ⟨g, 0, none⟩) m m 8 (by have := hm16.out; omega) 8 rfl
  have hcut8l := run_cut_l (P := Try.prog) Try.underlying25 infoU8s (some ⟨g, 0, none⟩) m m 8 (by have := hm16.out; omega) 8 rfl
  rw [cutA_some (by have := hm16.out; omega), Nat.zero_add] at hcut8l
  obtain ⟨S0, eS0⟩ : ∃ S0, S0 = byt t := ⟨_, rfl⟩
  rw [← eS0] at W1
  replace eS0 := Lib.hid eS0
  go_loopw [9] (fun tv wr => ∃ T : Nat, T ≤ 6 ∧ tv = .int .i64 ((T : Int) - 1) ∧ WrSt w wr g m m c V (unTo V S0 n (6 * n) (6 * n - n * T))) (fun tv _ => (intOf tv + 1).toNat)
  case atStart => exact ⟨6, by decide, rfl, by rw [show 6 * n - n * 6 = 0 by omega]; exact W1.out⟩
  case round =>
    obtain ⟨T, hT, rfl, hW⟩ := hrel
    clear W1
    by_cases h0 : T = 0
    · subst h0
      simp only [show (((0 : Nat) : Int) - 1) = -1 from rfl]
      rw [Nat.mul_zero, Nat.sub_zero] at hW
      obtain ⟨S, eS⟩ : ∃ S, S = unTo V S0 n (6 * n) (6 * n) := ⟨_, rfl⟩
      rw [← eS] at hW
      replace hW := Lib.hid hW
      replace eS := Lib.hid eS
      go_wp2_with fail
      obtain ⟨wq, rfl⟩ : ∃ wq : World, wq = wr := ⟨_, rfl⟩
      have hm24 : 24 ≤ m := by have := hm16.out; omega
      have eR : unL (byt (wordsOf (byt key))) t = bytesOf S m := by
        unfold unL
        rw [em.out, ← eV.out, ← eS0.out, show m / 8 - 1 = n by have := en.out; omega, ← eS.out]
      replace eR := Lib.hid eR
      go_loopw [71] (fun jv wr => ∃ j : Nat, j ≤ 8 ∧ jv = .int .i64 j ∧ WrSt w wr g m m c V S ∧ ∀ i, i < j → S i = 166) (fun jv _ => 8 - (intOf jv).toNat)
      case atStart => exact ⟨0, by decide, rfl, hW.out, fun i hi => by omega⟩
      case round =>
        obtain ⟨j, hj, rfl, hQ, hall⟩ := hrel
        clear hW
        by_cases hlt : j < 8
        · have cj := hQ.o.cell (j := j) (by omega)
          have k8 : ((j : Int) < 8) := by omega
          by_cases hx : S j = 166
          · have hall' : ∀ i, i < j + 1 → S i = 166 := fun i hi => by
              by_cases e : i = j
              · subst e; exact hx
              · exact hall i (by omega)
            rw [hx] at cj
            simp only [show ((166 : Nat) : Int) = 166 from rfl] at cj
            replace hQ := Lib.hid hQ
            replace hall := Lib.hid hall
            replace hall' := Lib.hid hall'
            replace hx := Lib.hid hx
            go_wp2_with fail
            go_roundw
            case rel => exact ⟨j + 1, by omega, by go_num, hQ.out, hall'.out⟩
            case measure => simp [intOf]; omega
          · have nb : ¬ ((S j : Int) = 166) := by omega
            have low := hQ.low
            have hne : (unL (byt (wordsOf (byt key))) t).take 8 ≠ List.replicate 8 166 := fun e => by
              rw [eR.out] at e
              exact hx ((take_marks (by omega)).1 e j hlt)
            generalize S j = y at *
            replace hQ := Lib.hid hQ
            replace hall := Lib.hid hall
            replace low := Lib.hid low
            replace hne := Lib.hid hne
            go_wp2_with fail
            go_ret2
            unfold UnSays
            rw [if_neg hne.out]
            exact ⟨⟨_, rfl, fun e => absurd e hne.out, fun _ => rfl⟩, low.out⟩
        · obtain rfl : j = 8 := by omega
          simp only [show ((8 : Nat) : Int) = 8 from rfl]
          have hO := hQ.o.own (base := w.heap.size) hQ.gw (by have := hm128.out; unfold maxLen; omega)
          have hT := hO.text (bytesOf_lt (fun i _ => hQ.s i))
          have lT : (bytesOf S m).length = m := length_bytesOf _ _
          have hT2 := TextAt.cutLo (lo := 8) (by rw [lT]; exact hT) (by rw [lT]; omega)
          rw [lT, cutA_some (by omega), Nat.zero_add] at hT2
          have heq : (unL (byt (wordsOf (byt key))) t).take 8 = List.replicate 8 166 := by
            rw [eR.out]; exact (take_marks (by omega)).2 hall
          have low := hQ.low
          replace hQ := Lib.hid hQ
          replace hall := Lib.hid hall
          replace hO := Lib.hid hO
          replace hT := Lib.hid hT
          replace lT := Lib.hid lT
          replace hT2 := Lib.hid hT2
          replace heq := Lib.hid heq
          replace low := Lib.hid low
          go_wp2_with fail
          go_ret2
          unfold UnSays
          rw [if_pos heq.out, eR.out]
          exact ⟨⟨_, rfl, fun _ => hT2.out, fun e => absurd (by rw [← eR.out]; exact heq.out) e⟩, low.out⟩
    · obtain ⟨t1, rfl⟩ : ∃ t1, T = t1 + 1 := ⟨T - 1, by omega⟩
      have ev : (((t1 + 1 : Nat) : Int) - 1) = (t1 : Int) := by omega
      rw [ev]
      have dge : decide ((t1 : Int) ≥ 0) = true := decide_eq_true (by omega)
      have e0 : 6 * n - n * (t1 + 1) = 6 * n - (n * t1 + n) := by rw [Nat.mul_succ]
      rw [e0] at hW
      replace hW := Lib.hid hW
      replace e0 := Lib.hid e0
      go_wp2_with fail
      obtain ⟨wq, rfl⟩ : ∃ wq : World, wq = wr := ⟨_, rfl⟩
      go_loopw [10] (fun iv wr => ∃ I : Nat, I ≤ n ∧ iv = .int .i64 I ∧ WrSt w wr g m m c V (unTo V S0 n (6 * n) (6 * n - (n * t1 + I)))) (fun iv _ => (intOf iv).toNat)
      case atStart => exact ⟨n, Nat.le_refl _, rfl, hW.out⟩
      case round =>
        obtain ⟨I, hI, rfl, hQ⟩ := hrel
        clear hW
        by_cases hlt : 1 ≤ I
        · have dle : decide ((I : Int) ≥ 1) = true := decide_eq_true (by omega)
          obtain ⟨M, eM⟩ : ∃ M, M = n * t1 + I := ⟨_, rfl⟩
          have hn16 : n ≤ 16 := by have := hm128.out; have := en.out; omega
          obtain ⟨hM, hM6⟩ := unw_left eM (by omega) hn16 hI
          rw [← eM] at hQ
          obtain ⟨k, ek2⟩ : ∃ k, 6 * n = k + M := ⟨6 * n - M, by omega⟩
          have e1 := un_step (V := V) (S0 := S0) eM hlt hI ek2
          have e2 : 6 * n - M = k := by omega
          rw [e2] at hQ
          have e3 : 6 * n - (n * t1 + (I - 1)) = k + 1 := by omega
          obtain ⟨S, eS⟩ : ∃ S, S = unTo V S0 n (6 * n) k := ⟨_, rfl⟩
          rw [← eS] at hQ e1
          have hnk : n * t1 ≤ 16 * 5 := Nat.mul_le_mul hn16 (by omega)
          have f1 : IntKind.i64.wrap ((n : Int) * (t1 : Int)) = ((n * t1 : Nat) : Int) := by rw [IntWalk.i64_in _ (by rw [← Int.natCast_mul]; omega)]; simp
          have f2 : IntKind.i64.wrap (((n * t1 : Nat) : Int) + (I : Int)) = (M : Int) := by rw [IntWalk.i64_in _ (by omega)]; omega
          have f3 : IntKind.i64.wrap ((I : Int) * 8) = 8 * (I : Int) := by rw [IntWalk.i64_in _ (by omega)]; omega
          have h8I : 8 * I + 8 ≤ m := by have := en.out; omega
          have hcutI := run_cut_l (P := Try.prog) Try.underlying25 infoU8s (some ⟨g, 0, none⟩) m m (8 * I) (by omega) (8 * (I : Int)) (by omega)
          rw [cutA_some (by omega), Nat.zero_add] at hcutI
          have X0 : BlkAt (wr.alloc (.cells #[.int .u8 0, .int .u8 0, .int .u8 0, .int .u8 0, .int .u8 0, .int .u8 0, .int .u8 0, .int .u8 0, .int .u8 0, .int .u8 0, .int .u8 0, .int .u8 0, .int .u8 0, .int .u8 0, .int .u8 0, .int .u8 0] 91)) wr.heap.size 91 16 16 (fun _ => 0) := BlkAt.ofRow (show RowB _ _ _ _ from heap_alloc_new _ _)
          have Q0 : WrSt w (wr.alloc (.cells #[.int .u8 0, .int .u8 0, .int .u8 0, .int .u8 0, .int .u8 0, .int .u8 0, .int .u8 0, .int .u8 0, .int .u8 0, .int .u8 0, .int .u8 0, .int .u8 0, .int .u8 0, .int .u8 0, .int .u8 0, .int .u8 0] 91)) g m m c V S := hQ.below ((Below.refl _ _).alloc (Nat.le_refl _) _)
          have hxg : wr.heap.size ≠ g := by have := hQ.o.lt; omega
          have hxc : wr.heap.size ≠ c := by have := hQ.ci.lt; omega
          have hwx : w.heap.size ≤ wr.heap.size := by have := hQ.low.size; omega
          have X1 : BlkAt (wr.alloc (.cells #[.int .u8 0, .int .u8 0, .int .u8 0, .int .u8 0, .int .u8 0, .int .u8 0, .int .u8 0, .int .u8 0, .int .u8 0, .int .u8 0, .int .u8 0, .int .u8 0, .int .u8 0, .int .u8 0, .int .u8 0, .int .u8 0] 91)).drew wr.heap.size 91 16 16 (fun _ => 0) := X0.stay rfl
          have Q1 : WrSt w (wr.alloc (.cells #[.int .u8 0, .int .u8 0, .int .u8 0, .int .u8 0, .int .u8 0, .int .u8 0, .int .u8 0, .int .u8 0, .int .u8 0, .int .u8 0, .int .u8 0, .int .u8 0, .int .u8 0, .int .u8 0, .int .u8 0, .int .u8 0] 91)).drew g m m c V S := Q0.below (Below.refl _ _).drew
          clear X0 Q0 e2 hM6 ev
          replace eM := Lib.hid eM
          replace hnk := Lib.hid hnk
          replace hQ := Lib.hid hQ
          replace e1 := Lib.hid e1
          replace e3 := Lib.hid e3
          replace eS := Lib.hid eS
          replace X1 := Lib.hid X1
          replace Q1 := Lib.hid Q1
          replace hM := Lib.hid hM
          replace ek2 := Lib.hid ek2
          go_wp2_with fail
          generalize (wr.alloc (.cells #[.int .u8 0, .int .u8 0, .int .u8 0, .int .u8 0, .int .u8 0, .int .u8 0, .int .u8 0, .int .u8 0, .int .u8 0, .int .u8 0, .int .u8 0, .int .u8 0, .int .u8 0, .int .u8 0, .int .u8 0, .int .u8 0] 91)) = wa at *
          generalize wr.heap.size = x at *
          have r8 := run_arr_h (P := Try.prog) Try.underlying91 infoU8s x 8 (by decide) 8 rfl (by decide)
          have r8l : ∀ y, (Instr.sliceAt 91 (.pointer (some ⟨x, 0, none⟩)) (some (.int .i64 8)) none none).run Try.prog y = .ok (.slice (some ⟨x, 8, none⟩) 8 8) y := fun y => by kernel_rfl
          refine wp_region_held_drew (S := (fun _ => True)) (by kernel_rfl) (trivial) (fun hHeld => ?_)
          refine held_take (i := 0) (v := ?_) rfl (by kernel_rfl) (by kernel_rfl) (by kernel_rfl) (fun _ _ _ h => h) (Or.inl ⟨by rfl, ?_⟩) (by assumption) ?_
          rotate_left
          · intro w hSw; (try dsimp only at hSw); go_simp; try with_reducible rfl
          try simp only [Act.put, List.setIfInBounds_toArray, List.set_cons_zero, List.set_cons_succ]
          refine held_take (i := 1) (v := ?_) rfl (by kernel_rfl) (by kernel_rfl) (by kernel_rfl) (fun _ _ _ h => h) (Or.inl ⟨by rfl, ?_⟩) (by assumption) ?_
          rotate_left
          · intro w hSw; (try dsimp only at hSw); go_simp; try with_reducible rfl
          try simp only [Act.put, List.setIfInBounds_toArray, List.set_cons_zero, List.set_cons_succ]
          refine held_take (i := 2) (v := ?_) rfl (by kernel_rfl) (by kernel_rfl) (by kernel_rfl) (fun _ _ _ h => h) (Or.inl ⟨by rfl, ?_⟩) (by assumption) ?_
          rotate_left
          · intro w hSw; (try dsimp only at hSw); go_simp; try with_reducible rfl
          try simp only [Act.put, List.setIfInBounds_toArray, List.set_cons_zero, List.set_cons_succ]
          refine held_ready (i := 3) rfl (by kernel_rfl) (fun K hK => ?_)
          rw [if_pos (by rfl)]
          refine step_copy_cells (.tmp 39) (.tmp 41) 25 25 rfl 5 Try.underlying25 infoU8s x 0 16 16 8 m g 0 rfl rfl (bytesOf S 8) (by simp) (Q1.out.o.src0 (n := 8) (by omega)) (by rw [length_bytesOf]; exact X1.out.there (o := 0) (n := 8) (by decide)) ?_
          refine hK.out _ _ (trivial) (fun hHeldN => ?_)
          clear hHeld hK K
          have hHeld := hHeldN
          clear hHeldN
          try simp only [Act.put, List.setIfInBounds_toArray, List.set_cons_zero, List.set_cons_succ]
          refine wpAnyH_done (by kernel_rfl) ?_ _
          clear hHeld
          have X2 := X1.out.setL 0 (bytesOf S 8)
          have Q2 := Q1.out.upd (upd_setCells (b := x) (u8l (bytesOf S 8)) 0 _) hxg hxc hwx
          generalize hwb : wa.drew.setCells x 0 (u8l (bytesOf S 8)) = wb at *
          have X2d : BlkAt wb.drew x 91 16 16 (putAt (fun _ => 0) 0 (bytesOf S 8)) := X2.stay rfl
          have Q2d : WrSt w wb.drew g m m c V S := Q2.below (Below.refl _ _).drew
          clear X1 Q1 hwb X2 Q2
          replace X2d := Lib.hid X2d
          replace Q2d := Lib.hid Q2d
          go_wp2_with fail
          refine wp_region_held_drew (S := (fun _ => True)) (by kernel_rfl) (trivial) (fun hHeld => ?_)
          refine held_take (i := 0) (v := ?_) rfl (by kernel_rfl) (by kernel_rfl) (by kernel_rfl) (fun _ _ _ h => h) (Or.inl ⟨by rfl, ?_⟩) (by assumption) ?_
          rotate_left
          · intro w hSw; (try dsimp only at hSw); go_simp; try with_reducible rfl
          try simp only [Act.put, List.setIfInBounds_toArray, List.set_cons_zero, List.set_cons_succ]
          refine held_take (i := 1) (v := ?_) rfl (by kernel_rfl) (by kernel_rfl) (by kernel_rfl) (fun _ _ _ h => h) (Or.inl ⟨by rfl, ?_⟩) (by assumption) ?_
          rotate_left
          · intro w hSw; (try dsimp only at hSw); go_simp; try with_reducible rfl
          try simp only [Act.put, List.setIfInBounds_toArray, List.set_cons_zero, List.set_cons_succ]
          refine held_take (i := 2) (v := ?_) rfl (by kernel_rfl) (by kernel_rfl) (by kernel_rfl) (fun _ _ _ h => h) (Or.inl ⟨by rfl, ?_⟩) (by assumption) ?_
          rotate_left
          · intro w hSw; (try dsimp only at hSw); go_simp; try with_reducible rfl
          try simp only [Act.put, List.setIfInBounds_toArray, List.set_cons_zero, List.set_cons_succ]
          refine held_take (i := 3) (v := ?_) rfl (by kernel_rfl) (by kernel_rfl) (by kernel_rfl) (fun _ _ _ h => h) (Or.inl ⟨by rfl, ?_⟩) (by assumption) ?_
          rotate_left
          · intro w hSw; (try dsimp only at hSw); go_simp; try with_reducible rfl
          try simp only [Act.put, List.setIfInBounds_toArray, List.set_cons_zero, List.set_cons_succ]
          refine held_take (i := 4) (v := ?_) rfl (by kernel_rfl) (by kernel_rfl) (by kernel_rfl) (fun _ _ _ h => h) (Or.inl ⟨by rfl, ?_⟩) (by assumption) ?_
          rotate_left
          · intro w hSw; (try dsimp only at hSw); go_simp; try with_reducible rfl
          try simp only [Act.put, List.setIfInBounds_toArray, List.set_cons_zero, List.set_cons_succ]
          refine held_ready (i := 5) rfl (by kernel_rfl) (fun K hK => ?_)
          rw [if_pos (by rfl)]
          refine step_copy_cells (.tmp 43) (.tmp 47) 25 25 rfl 5 Try.underlying25 infoU8s x 8 8 8 (m - 8 * I) (m - 8 * I) g (8 * I) rfl rfl (bytesOf (fun j => S (8 * I + j)) 8) (by rw [length_bytesOf]; exact (Nat.min_eq_right (by omega)).symm) (Q2d.out.o.src (o := 8 * I) (n := 8) (by omega)) (by rw [length_bytesOf]; exact X2d.out.there (o := 8) (n := 8) (by decide)) ?_
          refine hK.out _ _ (trivial) (fun hHeldN => ?_)
          clear hHeld hK K
          have hHeld := hHeldN
          clear hHeldN
          try simp only [Act.put, List.setIfInBounds_toArray, List.set_cons_zero, List.set_cons_succ]
          refine wpAnyH_done (by kernel_rfl) ?_ _
          clear hHeld
          have X3 := (X2d.out.setL 8 (bytesOf (fun j => S (8 * I + j)) 8)).congr (wblk_put (S := S) (i := I))
          have Q3 := Q2d.out.upd (upd_setCells (b := x) (u8l (bytesOf (fun j => S (8 * I + j)) 8)) 8 _) hxg hxc hwx
          generalize hwc : wb.drew.setCells x 8 (u8l (bytesOf (fun j => S (8 * I + j)) 8)) = wc at *
          clear X2d Q2d hwc
          have bX := wblk_lt Q3.s I
          replace Q3 := Lib.hid Q3
          replace bX := Lib.hid bX
          go_wp2_with fail
          rw [wrap_idx (n := n) (k := t1) (I := I) (M := M) eM.out hM.out]
          refine (mix_any wc x 91 M _ X3 bX.out hM.out).mono ?_
          rintro e wd ⟨rfl, X4, U4⟩
          have Q4 := Q3.out.upd U4 hxg hxc hwx
          have bY := wmix_lt bX.out M
          have eY : wput S I (backF V (wmix (wblk S I) M)) = ustep V S I M := by rw [ustep_def]
          clear X3 U4 Q3
          generalize wmix (wblk S I) M = Y at *
          have r4 := X4.row
          have i4 := info16 Y
          have ct := Lib.hid (back_any Q4.ci hV'.out Y bY)
          have bZ := bytes_back (W := V) hV'.out bY
          clear f1 f2
          replace X4 := Lib.hid X4
          replace Q4 := Lib.hid Q4
          replace bY := Lib.hid bY
          replace r4 := Lib.hid r4
          replace eY := Lib.hid eY
          replace bZ := Lib.hid bZ
          go_wp2_with (refine wpList_load_b (by rfl) 91 (.tmp 11) rfl x rfl 91 (tab Y) ?hh _ Try.underlying91 rfl i4 ?_; case hh => exact r4.out)
          refine ct.out.mono ?_
          clear ct
          rintro e we ⟨rfl, Be⟩
          have X5 := X4.out.below Be X4.out.lt
          have Q5 := Q4.out.below Be
          have r5 := X5.row
          clear X4 Q4 r4 Be
          obtain ⟨Z, eZ⟩ : ∃ Z, Z = backF V Y := ⟨_, rfl⟩
          rw [← eZ] at bZ eY ⊢
          have i5 := info16 Z
          replace X5 := Lib.hid X5
          replace Q5 := Lib.hid Q5
          replace r5 := Lib.hid r5
          replace eZ := Lib.hid eZ
          go_wp2_with (first
            | (refine wpList_store_s (by rfl) 91 (.tmp 11) (.tmp 58) rfl x (tab Z) rfl rfl 91 (u8s (tab Y)) ?hh i5 (by rw [size_tab, size_tab]) ?_; case hh => exact r5.out
               intro wf Re Ue)
            | (refine wpList_copy_cells (by rfl) (.tmp 59) (.tmp 60) 25 25 rfl 5 Try.underlying25 infoU8s g 0 m m 8 16 x 0 rfl rfl (bytesOf Z 8) ?h1 ?h2 ?h3 ?_; case h1 => rw [length_bytesOf]; exact (Nat.min_eq_left (by omega)).symm
               case h2 => exact (BlkAt.ofRow Re.out).src0 (n := 8) (by decide)
               case h3 => rw [length_bytesOf]; exact (Q5.out.upd Ue.out hxg hxc hwx).o.there (o := 0) (n := 8) (by omega)))
          have X6 := Lib.hid (BlkAt.ofRow Re.out)
          have Q6 := Lib.hid (Q5.out.upd Ue.out hxg hxc hwx)
          have bZ1 : ∀ v ∈ bytesOf Z 8, v < 256 := bytesOf_lt fun i hi => bZ.out i (by omega)
          have bZ2 : ∀ v ∈ bytesOf (fun j => Z (8 + j)) 8, v < 256 := bytesOf_lt fun i hi => bZ.out (8 + i) (by omega)
          have Q7 := Q6.out.setO hgc 0 (bytesOf Z 8) bZ1
          have X7 := X6.out.stay ((upd_setCells (b := g) (u8l (bytesOf Z 8)) 0 wf).block x X6.out.lt hxg)
          generalize hwg : wf.setCells g 0 (u8l (bytesOf Z 8)) = wg at *
          have X7d : BlkAt wg.drew x 91 16 16 Z := X7.stay rfl
          have Q7d : WrSt w wg.drew g m m c V (putAt S 0 (bytesOf Z 8)) := Q7.below (Below.refl _ _).drew
          clear X6 Q6 hwg X7 Q7 Re Ue X5 Q5 r5
          replace X7d := Lib.hid X7d
          replace Q7d := Lib.hid Q7d
          replace bZ1 := Lib.hid bZ1
          replace bZ2 := Lib.hid bZ2
          refine wp_region_held_drew (S := (fun _ => True)) (by kernel_rfl) (trivial) (fun hHeld => ?_)
          refine held_take (i := 0) (v := ?_) rfl (by kernel_rfl) (by kernel_rfl) (by kernel_rfl) (fun _ _ _ h => h) (Or.inl ⟨by rfl, ?_⟩) (by assumption) ?_
          rotate_left
          · intro w hSw; (try dsimp only at hSw); go_simp; try with_reducible rfl
          try simp only [Act.put, List.setIfInBounds_toArray, List.set_cons_zero, List.set_cons_succ]
          refine held_take (i := 1) (v := ?_) rfl (by kernel_rfl) (by kernel_rfl) (by kernel_rfl) (fun _ _ _ h => h) (Or.inl ⟨by rfl, ?_⟩) (by assumption) ?_
          rotate_left
          · intro w hSw; (try dsimp only at hSw); go_simp; try with_reducible rfl
          try simp only [Act.put, List.setIfInBounds_toArray, List.set_cons_zero, List.set_cons_succ]
          refine held_take (i := 2) (v := ?_) rfl (by kernel_rfl) (by kernel_rfl) (by kernel_rfl) (fun _ _ _ h => h) (Or.inl ⟨by rfl, ?_⟩) (by assumption) ?_
          rotate_left
          · intro w hSw; (try dsimp only at hSw); go_simp; try with_reducible rfl
          try simp only [Act.put, List.setIfInBounds_toArray, List.set_cons_zero, List.set_cons_succ]
          refine held_take (i := 3) (v := ?_) rfl (by kernel_rfl) (by kernel_rfl) (by kernel_rfl) (fun _ _ _ h => h) (Or.inl ⟨by rfl, ?_⟩) (by assumption) ?_
          rotate_left
          · intro w hSw; (try dsimp only at hSw); go_simp; try with_reducible rfl
          try simp only [Act.put, List.setIfInBounds_toArray, List.set_cons_zero, List.set_cons_succ]
          refine held_take (i := 4) (v := ?_) rfl (by kernel_rfl) (by kernel_rfl) (by kernel_rfl) (fun _ _ _ h => h) (Or.inl ⟨by rfl, ?_⟩) (by assumption) ?_
          rotate_left
          · intro w hSw; (try dsimp only at hSw); go_simp; try with_reducible rfl
          try simp only [Act.put, List.setIfInBounds_toArray, List.set_cons_zero, List.set_cons_succ]
          refine held_ready (i := 5) rfl (by kernel_rfl) (fun K hK => ?_)
          rw [if_pos (by rfl)]
          refine step_copy_cells (.tmp 65) (.tmp 66) 25 25 rfl 5 Try.underlying25 infoU8s g (8 * I) (m - 8 * I) (m - 8 * I) 8 8 x 8 rfl rfl (bytesOf (fun j => Z (8 + j)) 8) (by rw [length_bytesOf]; exact (Nat.min_eq_left (by omega)).symm) (X7d.out.src (o := 8) (n := 8) (by decide)) (by rw [length_bytesOf]; exact Q7d.out.o.there (o := 8 * I) (n := 8) (by omega)) ?_
          refine hK.out _ _ (trivial) (fun hHeldN => ?_)
          clear hHeld hK K
          have hHeld := hHeldN
          clear hHeldN
          try simp only [Act.put, List.setIfInBounds_toArray, List.set_cons_zero, List.set_cons_succ]
          refine wpAnyH_done (by kernel_rfl) ?_ _
          clear hHeld
          have Q8 := Q7d.out.setO hgc (8 * I) (bytesOf (fun j => Z (8 + j)) 8) bZ2.out
          rw [wput_put hlt, eY.out, ← e1.out, ← e3.out] at Q8
          have eI : ((I : Int) - 1) = ((I - 1 : Nat) : Int) := by omega
          replace Q8 := Lib.hid Q8
          go_wp2_with fail
          go_roundw
          case rel => exact ⟨I - 1, by omega, by go_num, Q8.out⟩
          case measure => simp [intOf]; omega
        · obtain rfl : I = 0 := by omega
          simp only [Int.natCast_zero]
          rw [Nat.add_zero] at hQ
          replace hQ := Lib.hid hQ
          go_wp2_with fail
          go_roundw
          case rel => exact ⟨t1, by omega, by go_num, hQ.out⟩
          case measure => simp [intOf] <;> omega
end Go.Proofs.Ytecmagenlbnchaa
namespace Go.Proofs.Ytecmagenlbnchaa
set_option maxRecDepth 100000
open Go.RowKit

theorem dbl_sum {a c : Nat} (ha : a < 256) (hc : c < 2) : a % 128 * 2 + c = 2 * a % 256 ||| c := by
  have h0 := eq_of_beq (of_all (p := fun a => (a % 128 * 2 + 0) == (2 * a % 256 ||| 0)) (by decide +kernel) ha)
  have h1 := eq_of_beq (of_all (p := fun a => (a % 128 * 2 + 1) == (2 * a % 256 ||| 1)) (by decide +kernel) ha)
  rcases (show c = 0 ∨ c = 1 by omega) with rfl | rfl
  · exact h0
  · exact h1
theorem bytesOf_snoc (s : Nat → Nat) (k : Nat) : bytesOf s (k + 1) = bytesOf s k ++ [s k] := by
  simp [bytesOf, List.range_succ]
theorem u8l_snoc (s : Nat → Nat) (k : Nat) : u8l (bytesOf s k) ++ [Value.int .u8 (s k : Int)] = u8l (bytesOf s (k + 1)) := by
  rw [bytesOf_snoc]; simp [u8l]

set_option maxHeartbeats 4000000 in
set_option maxRecDepth 100000 in
theorem ref_double (w : World) (v : Value) (m : Nat → Nat) (hm : Bytes16 m) (hv : TextAt w v (tab m)) :
    Calls Try.prog 65 #[v] w fun e w' => ∃ v', e = .returned v' ∧ Own w' w.heap.size 5 v' (u8l (tab (dblM m))) ∧ Below w.heap.size w w' := by
  obtain ⟨ao, cap, rfl, _, _, hby⟩ := hv.ex
  rw [length_tab] at hby ⊢
  obtain ⟨_, ob, oo, rfl, _⟩ := hby 0 (by decide)
  have hc : ∀ i, i < 16 → w.cell? ⟨ob, oo + i, none⟩ = some (.int .u8 (m i : Int)) := fun i hi => by
    obtain ⟨_, ob', oo', e, h1⟩ := hby i hi
    cases e
    rw [byt_tab m hi] at h1
    exact h1
  replace hm := Lib.hid hm
  replace hv := Lib.hid hv
  replace hby := Lib.hid hby
  replace hc := Lib.hid hc
  go_enter Try.func65, Try.ntmps65
  go_wp2_with fail
  go_loopw [3, 4, 5] (fun o c i wr => ∃ k : Nat, k ≤ 16 ∧ c = .int .u8 (cry m k : Int) ∧ i = .int .i64 k ∧ Own wr w.heap.size 5 o (u8l (bytesOf (dbl0 m) k)) ∧ Below w.heap.size w wr) (fun _ _ i _ => 16 - (intOf i).toNat)
  case atStart => exact ⟨0, Nat.zero_le _, rfl, rfl, Own.nil _ _ _, Below.refl _ _⟩
  case round =>
    obtain ⟨k, hk, rfl, rfl, hO, hB⟩ := hrel
    have hcry := cry_lt hm.out hk
    by_cases hlt : k < 16
    · have mk := hm.out k hlt
      have ck := (hB.cell (block_lt_of_cell (hc.out k hlt))).trans (hc.out k hlt)
      have ed : m k % 128 * 2 + cry m k = dbl0 m k := dbl_sum mk hcry
      have en : cry m (k + 1) = m k / 128 := rfl
      have sn := u8l_snoc (dbl0 m) k
      have ld : dbl0 m k < 256 := dbl0_lt hm.out k hlt
      have hs := hB.size
      have hl : (u8l (bytesOf (dbl0 m) k)).length = k := by simp [u8l]
      generalize u8l (bytesOf (dbl0 m) k) = xs at *
      generalize cry m k = c at *
      generalize hx : m k = x at *
      generalize hd : dbl0 m k = d at *
      have f1 : ((x : Int) % 128 * 2) % 256 = (x : Int) % 128 * 2 := by omega
      have f2 : ((x : Int) % 128 * 2 + (c : Int)) % 256 = (d : Int) := by omega
      have f3 : ((x : Int)).tmod 128 = (x : Int) % 128 := Int.tmod_eq_emod_of_nonneg (by omega)
      have g1 : IntKind.u8.wrap ((x : Int) % 128 * 2) = (x : Int) % 128 * 2 := by rw [IntKind.wrap_u8]; omega
      have g2 : IntKind.u8.wrap ((x : Int) % 128 * 2 + (c : Int)) = (d : Int) := by rw [IntKind.wrap_u8]; omega
      have key : ∀ w1, Below w.heap.size w w1 → w1.cell? ⟨ob, oo + k, none⟩ = some (.int .u8 (x : Int)) := fun w1 hB1 => by
        rw [← hx]
        exact (hB1.cell (block_lt_of_cell (hc.out k hlt))).trans (hc.out k hlt)
      have hB1 := hB.alloc hs (.cells #[.int .u8 (d : Int)] 5)
      have hO1 := hO.alloc (.cells #[.int .u8 (d : Int)] 5)
      have hs1 : w.heap.size ≤ (wr.alloc (.cells #[.int .u8 (d : Int)] 5)).heap.size := hB1.size
      replace hO := Lib.hid hO
      replace hB := Lib.hid hB
      replace en := Lib.hid en
      replace sn := Lib.hid sn
      replace hl := Lib.hid hl
      replace hx := Lib.hid hx
      replace hd := Lib.hid hd
      replace ed := Lib.hid ed
      replace key := Lib.hid key
      replace hB1 := Lib.hid hB1
      replace hO1 := Lib.hid hO1
      replace hs1 := Lib.hid hs1
      go_wp2_with (at_builtin; refine wpList_append_x rfl (.tmp 10) (.tmp 19) 25 rfl 5 Try.underlying25 (.int .u8 0) 1 infoU8 rfl (by decide) w.heap.size w _ xs rfl hO1.out hB1.out hs1.out (some ⟨wr.heap.size, 0, none⟩) 1 1 [.int .u8 (d : Int)] rfl rfl (fun e => by simp at e) one_cell (by simp [Value.oneCell']) (by rw [hl.out]; omega) ?_; intro v1 w1 O1 B1 G1 H1; have ck1 := key.out w1 B1.out)
      go_roundw
      case rel => exact ⟨k + 1, by omega, by rw [en.out]; go_num, by go_num, by rw [← sn.out]; exact O1.out, B1.out⟩
      case measure => simp [intOf]; omega
    · obtain rfl : k = 16 := by omega
      have ec : cry m 16 = m 15 / 128 := rfl
      obtain ⟨ao, cap2, rfl, _⟩ := (hO.text (bytesOf_lt (fun i hi => dbl0_lt hm.out i hi))).ex
      have hlen : (bytesOf (dbl0 m) 16).length = 16 := length_bytesOf _ _
      rw [hlen] at hO ⊢
      by_cases hx : cry m 16 = 1
      · have hg : ∃ g, ao = some ⟨g, 0, none⟩ ∧ w.heap.size ≤ g := by
          rcases hO.2 with ⟨e, _⟩ | ⟨g, cap', cur, e, hb, _⟩
          · simp at e
          · simp at e
            exact ⟨g, e.1, hb⟩
        obtain ⟨g, rfl, hwg⟩ := hg
        have hb0 : BlkAt wr g 5 cap2 16 (byt (bytesOf (dbl0 m) 16)) := by
          have h := BlkAt.ofOwn (l := bytesOf (dbl0 m) 16) (by rw [hlen]; exact hO)
          rwa [hlen] at h
        have c0 := hb0.cell (j := 0) (by decide)
        rw [byt_bytesOf _ (by decide)] at c0
        have fr := hb0.froz 0
        have ex : bits .xor .u8 (dbl0 m 0 : Int) 135 = ((dbl0 m 0 ^^^ 135 : Nat) : Int) := u8_xor_nat (dbl0 m 0) 135 (dbl0_lt hm.out 0 (by decide)) (by decide)
        have nb := hb0.set 0 (dbl0 m 0 ^^^ 135)
        have no := nb.own (base := w.heap.size) hwg (by
          rcases hO.2 with ⟨e, _⟩ | ⟨g', cap', cur, e, _, _, _, hm', _⟩
          · simp at e
          · simp at e
            rw [e.2.2]; exact hm')
        have eT : bytesOf (fun j => if j = 0 then dbl0 m 0 ^^^ 135 else byt (bytesOf (dbl0 m) 16) j) 16 = tab (dblM m) := by
          show bytesOf _ 16 = bytesOf (dblM m) 16
          refine bytesOf_congr fun j hj => ?_
          unfold dblM
          by_cases h0 : j = 0
          · rw [if_pos h0, if_pos ⟨h0, ec ▸ hx⟩]
          · rw [if_neg h0, if_neg (fun h => h0 h.1), byt_bytesOf _ hj]
        rw [eT] at no
        have nB := hB.setCell (p := ⟨g, 0, none⟩) hwg (.int .u8 ((dbl0 m 0 ^^^ 135 : Nat) : Int))
        rw [hx]
        generalize dbl0 m 0 ^^^ 135 = d2 at *
        generalize dbl0 m 0 = d at *
        replace hO := Lib.hid hO
        replace hB := Lib.hid hB
        replace hb0 := Lib.hid hb0
        replace nb := Lib.hid nb
        replace no := Lib.hid no
        replace nB := Lib.hid nB
        replace eT := Lib.hid eT
        replace hx := Lib.hid hx
        replace ec := Lib.hid ec
        replace hlen := Lib.hid hlen
        go_wp2_with fail
        go_ret
        exact ⟨_, rfl, no.out, nB.out⟩
      · have h0 : cry m 16 = 0 := by omega
        have eT : bytesOf (dbl0 m) 16 = tab (dblM m) := by
          show bytesOf _ 16 = bytesOf (dblM m) 16
          refine bytesOf_congr fun j hj => ?_
          unfold dblM
          rw [if_neg (fun h => hx (ec ▸ h.2))]
        rw [eT] at hO
        rw [h0]
        replace hO := Lib.hid hO
        replace hB := Lib.hid hB
        replace hx := Lib.hid hx
        replace ec := Lib.hid ec
        replace hlen := Lib.hid hlen
        replace eT := Lib.hid eT
        go_wp2_with fail
        go_ret
        exact ⟨_, rfl, hO.out, hB.out⟩

set_option maxHeartbeats 4000000 in
set_option maxRecDepth 100000 in
theorem ref_tweak (w : World) (s : Nat) (hs : s < 18446744073709551616) :
    Calls Try.prog 39 #[.int .u64 (s : Int)] w fun e w' => ∃ v', e = .returned v' ∧ Own w' w.heap.size 5 v' (u8l (tab (twk s))) ∧ Below w.heap.size w w' := by
  replace hs := Lib.hid hs
  go_enter Try.func39, Try.ntmps39
  go_wp2_with fail
  go_loopw [0, 3, 4] (fun y o i wr => ∃ k : Nat, k ≤ 16 ∧ y = .int .u64 ((s / 256 ^ k : Nat) : Int) ∧ i = .int .i64 k ∧ Own wr w.heap.size 5 o (u8l (bytesOf (twk s) k)) ∧ Below w.heap.size w wr) (fun _ _ i _ => 16 - (intOf i).toNat)
  case atStart => exact ⟨0, Nat.zero_le _, by simp, rfl, Own.nil _ _ _, Below.refl _ _⟩
  case round =>
    obtain ⟨k, hk, rfl, rfl, hO, hB⟩ := hrel
    by_cases hlt : k < 16
    · have ey : s / 256 ^ (k + 1) = s / 256 ^ k / 256 := by rw [Nat.pow_succ, Nat.div_div_eq_div_mul]
      have et : s / 256 ^ k % 256 = twk s k := by
        unfold twk
        by_cases h8 : k < 8
        · rw [if_pos h8]
        · rw [if_neg h8, Nat.div_eq_of_lt (Nat.lt_of_lt_of_le hs.out (Nat.pow_le_pow_right (n := 256) (by decide) (show 8 ≤ k by omega)))]
      have hy : s / 256 ^ k < 18446744073709551616 := Nat.lt_of_le_of_lt (Nat.div_le_self _ _) hs.out
      have sn := u8l_snoc (twk s) k
      have hb := hB.size
      have hl : (u8l (bytesOf (twk s) k)).length = k := by simp [u8l]
      generalize u8l (bytesOf (twk s) k) = xs at *
      generalize s / 256 ^ k = y at *
      generalize twk s k = d at *
      have g1 : (y : Int) % 256 = (d : Int) := by omega
      have g3 : ((y : Int)).tmod 256 = (d : Int) := by rw [Int.tmod_eq_emod_of_nonneg (by omega)]; omega
      have g2 : IntKind.u8.wrap (d : Int) = (d : Int) := by rw [IntKind.wrap_u8]; omega
      have hB1 := hB.alloc hb (.cells #[.int .u8 (d : Int)] 5)
      have hO1 := hO.alloc (.cells #[.int .u8 (d : Int)] 5)
      have hs1 : w.heap.size ≤ (wr.alloc (.cells #[.int .u8 (d : Int)] 5)).heap.size := hB1.size
      replace hO := Lib.hid hO
      replace hB := Lib.hid hB
      replace ey := Lib.hid ey
      replace sn := Lib.hid sn
      replace hl := Lib.hid hl
      replace et := Lib.hid et
      replace hB1 := Lib.hid hB1
      replace hO1 := Lib.hid hO1
      replace hs1 := Lib.hid hs1
      go_wp2_with (at_builtin; refine wpList_append_x rfl (.tmp 9) (.tmp 13) 25 rfl 5 Try.underlying25 (.int .u8 0) 1 infoU8 rfl (by decide) w.heap.size w _ xs rfl hO1.out hB1.out hs1.out (some ⟨wr.heap.size, 0, none⟩) 1 1 [.int .u8 (d : Int)] rfl rfl (fun e => by simp at e) one_cell (by simp [Value.oneCell']) (by rw [hl.out]; omega) ?_; intro v1 w1 O1 B1 G1 H1)
      go_roundw
      case rel => exact ⟨k + 1, by omega, by rw [ey.out]; go_num, by go_num, by rw [← sn.out]; exact O1.out, B1.out⟩
      case measure => simp [intOf]; omega
    · obtain rfl : k = 16 := by omega
      replace hO := Lib.hid hO
      replace hB := Lib.hid hB
      go_wp2_with fail
      go_ret
      exact ⟨_, rfl, hO.out, hB.out⟩
end Go.Proofs.Ytecmagenlbnchaa
namespace Go.Proofs.Ytecmagenlbnchaa
set_option maxRecDepth 100000
open Go.RowKit

/-- A byte just made, as a text. -/
theorem lit1 {wx : World} {d : Nat} (hd : d < 256) : TextAt (wx.alloc (.cells #[.int .u8 (d : Int)] 5)) (.slice (some ⟨wx.heap.size, 0, none⟩) 1 1) [d] := by
  refine ⟨some ⟨wx.heap.size, 0, none⟩, 1, rfl, Nat.le_refl _, fun e => by simp at e, fun i hi => ?_⟩
  obtain rfl : i = 0 := by simpa using hi
  refine ⟨hd, wx.heap.size, 0, rfl, ?_⟩
  rw [Nat.zero_add, cell_of_row _ _ _ _ _ _ (heap_alloc_new _ _)]
  rfl
theorem TextAt.nth {w : World} {v : Value} {t : List Nat} (h : TextAt w v t) : ∃ ao cap, v = .slice ao t.length cap ∧ ∀ k, k < t.length → ∃ ob oo, ao = some ⟨ob, oo, none⟩ ∧ w.cell? ⟨ob, oo + k, none⟩ = some (.int .u8 (byt t k : Int)) := by
  obtain ⟨ao, cap, rfl, _, _, hby⟩ := h.ex
  exact ⟨ao, cap, rfl, fun k hk => (hby k hk).2⟩
def xorF (X Y : List Nat) : Nat → Nat := fun i => byt X i ^^^ byt Y i

set_option maxHeartbeats 4000000 in
set_option maxRecDepth 100000 in
theorem rxored_any (w : World) (v u : Value) (X Y : List Nat) (hv : TextAt w v X) (hu : TextAt w u Y) (n : Nat) (en : X.length = n) (hm : n ≤ Y.length) (hn : n ≤ 1000) :
    Calls Try.prog 60 #[v, u] w fun e w' => ∃ v', e = .returned v' ∧ Own w' w.heap.size 5 v' (u8l (bytesOf (xorF X Y) n)) ∧ Below w.heap.size w w' := by
  obtain ⟨ax, cx, rfl, nx⟩ := hv.nth
  obtain ⟨ay, cy, rfl, ny⟩ := hu.nth
  have sx := hv.small
  have sy := hu.small
  rw [en] at nx ⊢
  obtain ⟨my, emy⟩ : ∃ q, q = Y.length := ⟨_, rfl⟩
  rw [← emy] at ny hm ⊢
  replace hv := Lib.hid hv
  replace hu := Lib.hid hu
  replace nx := Lib.hid nx
  replace ny := Lib.hid ny
  replace sx := Lib.hid sx
  replace sy := Lib.hid sy
  replace en := Lib.hid en
  replace emy := Lib.hid emy
  go_enter Try.func60, Try.ntmps60
  go_wp2_with fail
  go_loopw [5, 6] (fun o i wr => ∃ k : Nat, k ≤ n ∧ i = .int .i64 k ∧ Own wr w.heap.size 5 o (u8l (bytesOf (xorF X Y) k)) ∧ Below w.heap.size w wr) (fun _ i _ => n - (intOf i).toNat)
  case atStart => exact ⟨0, Nat.zero_le _, rfl, Own.nil _ _ _, Below.refl _ _⟩
  case round =>
    obtain ⟨k, hk, rfl, hO, hB⟩ := hrel
    by_cases hlt : k < n
    · obtain ⟨xb, xo, rfl, cX⟩ := nx.out k hlt
      obtain ⟨yb, yo, rfl, cY⟩ := ny.out k (by omega)
      have bx := byt_lt sx.out k
      have by' := byt_lt sy.out k
      have keyX : ∀ w1, Below w.heap.size w w1 → w1.cell? ⟨xb, xo + k, none⟩ = some (.int .u8 (byt X k : Int)) := fun w1 hB1 => (hB1.cell (block_lt_of_cell cX)).trans cX
      have keyY : ∀ w1, Below w.heap.size w w1 → w1.cell? ⟨yb, yo + k, none⟩ = some (.int .u8 (byt Y k : Int)) := fun w1 hB1 => (hB1.cell (block_lt_of_cell cY)).trans cY
      have ev := u8_xor_nat (byt X k) (byt Y k) bx by'
      have ld : xorF X Y k < 256 := xor_lt8 bx by'
      have ed : byt X k ^^^ byt Y k = xorF X Y k := rfl
      rw [ed] at ev
      have sn := bytesOf_snoc (xorF X Y) k
      have hs := hB.size
      have ll : (bytesOf (xorF X Y) k).length = k := length_bytesOf _ _
      generalize bytesOf (xorF X Y) k = L at *
      generalize byt X k = x at *
      generalize byt Y k = y at *
      generalize xorF X Y k = d at *
      have iX : (k : Int) < (n : Int) := by omega
      have iY : (k : Int) < (my : Int) := by omega
      have hBd : Below w.heap.size w wr.drew := hB.drew
      have c1 := keyX _ hBd
      have c2 := keyY _ hBd
      have t1 := lit1 (wx := wr.drew) ld
      have hB1 : Below w.heap.size w (wr.drew.alloc (.cells #[.int .u8 (d : Int)] 5)) := hBd.alloc hs _
      have O1 : Own (wr.drew.alloc (.cells #[.int .u8 (d : Int)] 5)) w.heap.size 5 _ _ := hO.drew.alloc _
      clear cX cY ed
      replace hO := Lib.hid hO
      replace hB := Lib.hid hB
      replace sn := Lib.hid sn
      replace keyX := Lib.hid keyX
      replace keyY := Lib.hid keyY
      replace bx := Lib.hid bx
      replace by' := Lib.hid by'
      replace ld := Lib.hid ld
      replace t1 := Lib.hid t1
      replace hB1 := Lib.hid hB1
      replace O1 := Lib.hid O1
      replace hBd := Lib.hid hBd
      go_wp2_with fail
      refine wp_region_held_drew (S := (fun w' => w'.cell? ⟨xb, xo + k, none⟩ = some (.int .u8 (x : Int)) ∧ w'.cell? ⟨yb, yo + k, none⟩ = some (.int .u8 (y : Int)))) (by kernel_rfl) (⟨c1, c2⟩) (fun hHeld => ?_)
      refine held_take (i := 0) (v := ?_) rfl (by kernel_rfl) (by kernel_rfl) (by kernel_rfl) (fun _ _ _ h => h) (Or.inl ⟨by rfl, ?_⟩) (by assumption) ?_
      rotate_left
      · intro w hSw; (try dsimp only at hSw); go_simp; try with_reducible rfl
      try simp only [Act.put, List.setIfInBounds_toArray, List.set_cons_zero, List.set_cons_succ]
      refine held_take (i := 1) (v := ?_) rfl (by kernel_rfl) (by kernel_rfl) (by kernel_rfl) (fun _ _ _ h => h) (Or.inl ⟨by rfl, ?_⟩) (by assumption) ?_
      rotate_left
      · intro w hSw; (try dsimp only at hSw); go_simp; try with_reducible rfl
      try simp only [Act.put, List.setIfInBounds_toArray, List.set_cons_zero, List.set_cons_succ]
      refine held_take (i := 2) (v := ?_) rfl (by kernel_rfl) (by kernel_rfl) (by kernel_rfl) (fun _ _ _ h => h) (Or.inl ⟨by rfl, ?_⟩) (by assumption) ?_
      rotate_left
      · intro w hSw; (try dsimp only at hSw); go_simp; try with_reducible rfl
      try simp only [Act.put, List.setIfInBounds_toArray, List.set_cons_zero, List.set_cons_succ]
      refine held_take (i := 3) (v := ?_) rfl (by kernel_rfl) (by kernel_rfl) (by kernel_rfl) (fun _ _ _ h => h) (Or.inl ⟨by rfl, ?_⟩) (by assumption) ?_
      rotate_left
      · intro w hSw; (try dsimp only at hSw); go_simp; try with_reducible rfl
      try simp only [Act.put, List.setIfInBounds_toArray, List.set_cons_zero, List.set_cons_succ]
      refine held_take (i := 4) (v := ?_) rfl (by kernel_rfl) (by kernel_rfl) (by kernel_rfl) (fun _ _ _ h => h) (Or.inl ⟨by rfl, ?_⟩) (by assumption) ?_
      rotate_left
      · intro w hSw; (try dsimp only at hSw); go_simp; try with_reducible rfl
      try simp only [Act.put, List.setIfInBounds_toArray, List.set_cons_zero, List.set_cons_succ]
      refine held_take (i := 5) (v := ?_) rfl (by kernel_rfl) (by kernel_rfl) (by kernel_rfl) (fun _ _ _ h => h) (Or.inl ⟨by rfl, ?_⟩) (by assumption) ?_
      rotate_left
      · intro w hSw; (try dsimp only at hSw); go_simp; try with_reducible rfl
      try simp only [Act.put, List.setIfInBounds_toArray, List.set_cons_zero, List.set_cons_succ]
      refine held_take (i := 6) (v := ?_) rfl (by kernel_rfl) (by kernel_rfl) (by kernel_rfl) (fun _ _ _ h => h) (Or.inl ⟨by rfl, ?_⟩) (by assumption) ?_
      rotate_left
      · intro w hSw; (try dsimp only at hSw); go_simp; try with_reducible rfl
      try simp only [Act.put, List.setIfInBounds_toArray, List.set_cons_zero, List.set_cons_succ]
      refine held_take (i := 7) (v := ?_) rfl (by kernel_rfl) (by kernel_rfl) (by kernel_rfl) (fun _ _ _ h => h) (Or.inl ⟨by rfl, ?_⟩) (by assumption) ?_
      rotate_left
      · intro w hSw; (try dsimp only at hSw); go_simp; try with_reducible rfl
      try simp only [Act.put, List.setIfInBounds_toArray, List.set_cons_zero, List.set_cons_succ]
      refine held_take (i := 8) (v := ?_) rfl (by kernel_rfl) (by kernel_rfl) (by kernel_rfl) (fun _ _ _ h => h) (Or.inl ⟨by rfl, ?_⟩) (by assumption) ?_
      rotate_left
      · intro w hSw; (try dsimp only at hSw); go_simp; try with_reducible rfl
      try simp only [Act.put, List.setIfInBounds_toArray, List.set_cons_zero, List.set_cons_succ]
      refine held_take (i := 9) (v := ?_) rfl (by kernel_rfl) (by kernel_rfl) (by kernel_rfl) (fun _ _ _ h => h) (Or.inl ⟨by rfl, ?_⟩) (by assumption) ?_
      rotate_left
      · intro w hSw; (try dsimp only at hSw); go_simp; try with_reducible rfl
      try simp only [Act.put, List.setIfInBounds_toArray, List.set_cons_zero, List.set_cons_succ]
      refine held_ready (i := 10) rfl (by kernel_rfl) (fun K hK => ?_)
      rw [if_pos (by rfl)]
      go_simp
      refine hK.out _ _ (⟨keyX.out _ hB1.out, keyY.out _ hB1.out⟩) (fun hHeldN => ?_)
      clear hHeld hK K
      have hHeld := hHeldN
      clear hHeldN
      try simp only [Act.put, List.setIfInBounds_toArray, List.set_cons_zero, List.set_cons_succ]
      refine held_ready (i := 11) rfl (by kernel_rfl) (fun K hK => ?_)
      rw [if_pos (by rfl)]
      refine wp_append_t (.tmp 13) (.tmp 23) rfl w.heap.size w _ L rfl O1.out hB1.out hB1.out.size _ [d] rfl t1.out (by rw [ll]; simp; omega) ?_
      intro v1 w1 O2 B2 G2 H2
      rw [← sn.out] at O2
      refine hK.out _ _ (⟨keyX.out _ B2.out, keyY.out _ B2.out⟩) (fun hHeldN => ?_)
      clear hHeld hK K
      have hHeld := hHeldN
      clear hHeldN
      try simp only [Act.put, List.setIfInBounds_toArray, List.set_cons_zero, List.set_cons_succ]
      refine held_take (i := 12) (v := ?_) rfl (by kernel_rfl) (by kernel_rfl) (by kernel_rfl) (fun _ _ _ h => h) (Or.inl ⟨by rfl, ?_⟩) (by assumption) ?_
      rotate_left
      · intro w hSw; (try dsimp only at hSw); go_simp; try with_reducible rfl
      try simp only [Act.put, List.setIfInBounds_toArray, List.set_cons_zero, List.set_cons_succ]
      refine wpAnyH_done (by kernel_rfl) ?_ _
      clear hHeld
      go_wp2_with fail
      go_roundw
      case rel => exact ⟨k + 1, by omega, by go_num, O2.out, B2.out⟩
      case measure => simp [intOf]; omega
    · obtain rfl : k = n := by omega
      replace hO := Lib.hid hO
      replace hB := Lib.hid hB
      go_wp2_with fail
      go_ret
      exact ⟨_, rfl, hO.out, hB.out⟩

/-! ### A cipher of the reference: what is read of it -/
def wordsT (W : Nat → Nat) : List (List Nat) := (List.range 60).map fun i => bytesOf (fun k => W (4 * i + k)) 4
def boxT : List Nat := bytesOf gbox 256
def unbT : List Nat := bytesOf gunb 256
structure RefC (w : World) (c : Nat) (aw : Option Addr) (cw : Nat) (vb vk : Value) (W : Nat → Nat) : Prop where
  row : w.heap[c]? = some (.cells #[.slice aw 60 cw, vb, vk] 100 (0, 0))
  words : TextsAt w aw (wordsT W)
  box : TextAt w vb boxT
  unb : TextAt w vk unbT
theorem RefC.below {w w' : World} {c : Nat} {aw : Option Addr} {cw : Nat} {vb vk : Value} {W : Nat → Nat} (h : RefC w c aw cw vb vk W) (hB : Below w.heap.size w w') : RefC w' c aw cw vb vk W :=
  ⟨(hB.block c (lt_of_block h.row)).trans h.row, h.words.below hB, h.box.below hB, h.unb.below hB⟩

set_option maxHeartbeats 4000000 in
set_option maxRecDepth 100000 in
theorem rboxed_core (w : World) (c : Nat) (vb : Value) (hc1 : w.cell? ⟨c, 1, none⟩ = some vb) (hbx : TextAt w vb boxT) (v : Value) (X : List Nat) (hv : TextAt w v X) (n : Nat) (en : X.length = n) (hn : n ≤ 1000) :
    Calls Try.prog 58 #[.pointer (some ⟨c, 0, none⟩), v] w fun e w' => ∃ v', e = .returned v' ∧ Own w' w.heap.size 5 v' (u8l (bytesOf (fun i => gbox (byt X i)) n)) ∧ Below w.heap.size w w' := by
  obtain ⟨ax, cx, rfl, nx⟩ := hv.nth
  obtain ⟨ab, cb, rfl, nb⟩ := hbx.nth
  have sx := hv.small
  have lb : boxT.length = 256 := length_bytesOf _ _
  rw [lb] at nb
  rw [en] at nx ⊢
  have c1 : w.cell? ⟨c, 1, none⟩ = some (.slice ab 256 cb) := by rw [hc1, lb]
  clear hc1
  replace hv := Lib.hid hv
  replace hbx := Lib.hid hbx
  replace nx := Lib.hid nx
  replace nb := Lib.hid nb
  replace sx := Lib.hid sx
  replace en := Lib.hid en
  replace lb := Lib.hid lb
  replace c1 := Lib.hid c1
  go_enter Try.func58, Try.ntmps58
  go_wp2_with fail
  go_loopw [5, 6] (fun o i wr => ∃ k : Nat, k ≤ n ∧ i = .int .i64 k ∧ Own wr w.heap.size 5 o (u8l (bytesOf (fun i => gbox (byt X i)) k)) ∧ Below w.heap.size w wr) (fun _ i _ => n - (intOf i).toNat)
  case atStart => exact ⟨0, Nat.zero_le _, rfl, Own.nil _ _ _, Below.refl _ _⟩
  case round =>
    obtain ⟨k, hk, rfl, hO, hB⟩ := hrel
    by_cases hlt : k < n
    · obtain ⟨xb, xo, rfl, cX⟩ := nx.out k hlt
      have bx := byt_lt sx.out k
      obtain ⟨bb, bo, rfl, cB⟩ := nb.out (byt X k) bx
      rw [show byt boxT (byt X k) = gbox (byt X k) from byt_bytesOf _ bx] at cB
      have key0 : ∀ w1, Below w.heap.size w w1 → w1.cell? ⟨c, 1, none⟩ = some (.slice (some ⟨bb, bo, none⟩) 256 cb) := fun w1 hB1 => (hB1.cell (block_lt_of_cell c1.out)).trans c1.out
      have keyX : ∀ w1, Below w.heap.size w w1 → w1.cell? ⟨xb, xo + k, none⟩ = some (.int .u8 (byt X k : Int)) := fun w1 hB1 => (hB1.cell (block_lt_of_cell cX)).trans cX
      have keyB : ∀ w1, Below w.heap.size w w1 → w1.cell? ⟨bb, bo + byt X k, none⟩ = some (.int .u8 (gbox (byt X k) : Int)) := fun w1 hB1 => (hB1.cell (block_lt_of_cell cB)).trans cB
      have ld : gbox (byt X k) < 256 := gbox_lt bx
      have sn := bytesOf_snoc (fun i => gbox (byt X i)) k
      have hs := hB.size
      have ll : (bytesOf (fun i => gbox (byt X i)) k).length = k := length_bytesOf _ _
      generalize bytesOf (fun i => gbox (byt X i)) k = L at *
      generalize gbox (byt X k) = d at *
      generalize byt X k = x at *
      have iX : (k : Int) < (n : Int) := by omega
      have iB : (x : Int) < 256 := by omega
      have hBd : Below w.heap.size w wr.drew := hB.drew
      have q1 := key0 _ hBd
      have q2 := keyX _ hBd
      have q3 := keyB _ hBd
      have t1 := lit1 (wx := wr.drew) ld
      have hB1 : Below w.heap.size w (wr.drew.alloc (.cells #[.int .u8 (d : Int)] 5)) := hBd.alloc hs _
      have O1 : Own (wr.drew.alloc (.cells #[.int .u8 (d : Int)] 5)) w.heap.size 5 _ _ := hO.drew.alloc _
      clear cX cB
      replace hO := Lib.hid hO
      replace hB := Lib.hid hB
      replace sn := Lib.hid sn
      replace key0 := Lib.hid key0
      replace keyX := Lib.hid keyX
      replace keyB := Lib.hid keyB
      replace bx := Lib.hid bx
      replace ld := Lib.hid ld
      replace t1 := Lib.hid t1
      replace hB1 := Lib.hid hB1
      replace O1 := Lib.hid O1
      replace hBd := Lib.hid hBd
      go_wp2_with fail
      refine wp_region_held_drew (S := (fun w' => w'.cell? ⟨c, 1, none⟩ = some (.slice (some ⟨bb, bo, none⟩) 256 cb) ∧ w'.cell? ⟨xb, xo + k, none⟩ = some (.int .u8 (x : Int)) ∧ w'.cell? ⟨bb, bo + x, none⟩ = some (.int .u8 (d : Int)))) (by kernel_rfl) (⟨q1, q2, q3⟩) (fun hHeld => ?_)
      refine held_take (i := 0) (v := ?_) rfl (by kernel_rfl) (by kernel_rfl) (by kernel_rfl) (fun _ _ _ h => h) (Or.inl ⟨by rfl, ?_⟩) (by assumption) ?_
      rotate_left
      · intro w hSw; (try dsimp only at hSw); go_simp; try with_reducible rfl
      try simp only [Act.put, List.setIfInBounds_toArray, List.set_cons_zero, List.set_cons_succ]
      refine held_take (i := 1) (v := ?_) rfl (by kernel_rfl) (by kernel_rfl) (by kernel_rfl) (fun _ _ _ h => h) (Or.inl ⟨by rfl, ?_⟩) (by assumption) ?_
      rotate_left
      · intro w hSw; (try dsimp only at hSw); go_simp; try with_reducible rfl
      try simp only [Act.put, List.setIfInBounds_toArray, List.set_cons_zero, List.set_cons_succ]
      refine held_take (i := 2) (v := ?_) rfl (by kernel_rfl) (by kernel_rfl) (by kernel_rfl) (fun _ _ _ h => h) (Or.inl ⟨by rfl, ?_⟩) (by assumption) ?_
      rotate_left
      · intro w hSw; (try dsimp only at hSw); go_simp; try with_reducible rfl
      try simp only [Act.put, List.setIfInBounds_toArray, List.set_cons_zero, List.set_cons_succ]
      refine held_take (i := 3) (v := ?_) rfl (by kernel_rfl) (by kernel_rfl) (by kernel_rfl) (fun _ _ _ h => h) (Or.inl ⟨by rfl, ?_⟩) (by assumption) ?_
      rotate_left
      · intro w hSw; (try dsimp only at hSw); go_simp; try with_reducible rfl
      try simp only [Act.put, List.setIfInBounds_toArray, List.set_cons_zero, List.set_cons_succ]
      refine held_take (i := 4) (v := ?_) rfl (by kernel_rfl) (by kernel_rfl) (by kernel_rfl) (fun _ _ _ h => h) (Or.inl ⟨by rfl, ?_⟩) (by assumption) ?_
      rotate_left
      · intro w hSw; (try dsimp only at hSw); go_simp; try with_reducible rfl
      try simp only [Act.put, List.setIfInBounds_toArray, List.set_cons_zero, List.set_cons_succ]
      refine held_take (i := 5) (v := ?_) rfl (by kernel_rfl) (by kernel_rfl) (by kernel_rfl) (fun _ _ _ h => h) (Or.inl ⟨by rfl, ?_⟩) (by assumption) ?_
      rotate_left
      · intro w hSw; (try dsimp only at hSw); go_simp; try with_reducible rfl
      try simp only [Act.put, List.setIfInBounds_toArray, List.set_cons_zero, List.set_cons_succ]
      refine held_take (i := 6) (v := ?_) rfl (by kernel_rfl) (by kernel_rfl) (by kernel_rfl) (fun _ _ _ h => h) (Or.inl ⟨by rfl, ?_⟩) (by assumption) ?_
      rotate_left
      · intro w hSw; (try dsimp only at hSw); go_simp; try with_reducible rfl
      try simp only [Act.put, List.setIfInBounds_toArray, List.set_cons_zero, List.set_cons_succ]
      refine held_take (i := 7) (v := ?_) rfl (by kernel_rfl) (by kernel_rfl) (by kernel_rfl) (fun _ _ _ h => h) (Or.inl ⟨by rfl, ?_⟩) (by assumption) ?_
      rotate_left
      · intro w hSw; (try dsimp only at hSw); go_simp; try with_reducible rfl
      try simp only [Act.put, List.setIfInBounds_toArray, List.set_cons_zero, List.set_cons_succ]
      refine held_take (i := 8) (v := ?_) rfl (by kernel_rfl) (by kernel_rfl) (by kernel_rfl) (fun _ _ _ h => h) (Or.inl ⟨by rfl, ?_⟩) (by assumption) ?_
      rotate_left
      · intro w hSw; (try dsimp only at hSw); go_simp; try with_reducible rfl
      try simp only [Act.put, List.setIfInBounds_toArray, List.set_cons_zero, List.set_cons_succ]
      refine held_take (i := 9) (v := ?_) rfl (by kernel_rfl) (by kernel_rfl) (by kernel_rfl) (fun _ _ _ h => h) (Or.inl ⟨by rfl, ?_⟩) (by assumption) ?_
      rotate_left
      · intro w hSw; (try dsimp only at hSw); go_simp; try with_reducible rfl
      try simp only [Act.put, List.setIfInBounds_toArray, List.set_cons_zero, List.set_cons_succ]
      refine held_take (i := 10) (v := ?_) rfl (by kernel_rfl) (by kernel_rfl) (by kernel_rfl) (fun _ _ _ h => h) (Or.inl ⟨by rfl, ?_⟩) (by assumption) ?_
      rotate_left
      · intro w hSw; (try dsimp only at hSw); go_simp; try with_reducible rfl
      try simp only [Act.put, List.setIfInBounds_toArray, List.set_cons_zero, List.set_cons_succ]
      refine held_ready (i := 11) rfl (by kernel_rfl) (fun K hK => ?_)
      rw [if_pos (by rfl)]
      go_simp
      refine hK.out _ _ (⟨key0.out _ hB1.out, keyX.out _ hB1.out, keyB.out _ hB1.out⟩) (fun hHeldN => ?_)
      clear hHeld hK K
      have hHeld := hHeldN
      clear hHeldN
      try simp only [Act.put, List.setIfInBounds_toArray, List.set_cons_zero, List.set_cons_succ]
      refine held_ready (i := 12) rfl (by kernel_rfl) (fun K hK => ?_)
      rw [if_pos (by rfl)]
      refine wp_append_t (.tmp 13) (.tmp 24) rfl w.heap.size w _ L rfl O1.out hB1.out hB1.out.size _ [d] rfl t1.out (by rw [ll]; simp; omega) ?_
      intro v1 w1 O2 B2 G2 H2
      rw [← sn.out] at O2
      refine hK.out _ _ (⟨key0.out _ B2.out, keyX.out _ B2.out, keyB.out _ B2.out⟩) (fun hHeldN => ?_)
      clear hHeld hK K
      have hHeld := hHeldN
      clear hHeldN
      try simp only [Act.put, List.setIfInBounds_toArray, List.set_cons_zero, List.set_cons_succ]
      refine held_take (i := 13) (v := ?_) rfl (by kernel_rfl) (by kernel_rfl) (by kernel_rfl) (fun _ _ _ h => h) (Or.inl ⟨by rfl, ?_⟩) (by assumption) ?_
      rotate_left
      · intro w hSw; (try dsimp only at hSw); go_simp; try with_reducible rfl
      try simp only [Act.put, List.setIfInBounds_toArray, List.set_cons_zero, List.set_cons_succ]
      refine wpAnyH_done (by kernel_rfl) ?_ _
      clear hHeld
      go_wp2_with fail
      go_roundw
      case rel => exact ⟨k + 1, by omega, by go_num, O2.out, B2.out⟩
      case measure => simp [intOf]; omega
    · obtain rfl : k = n := by omega
      replace hO := Lib.hid hO
      replace hB := Lib.hid hB
      go_wp2_with fail
      go_ret
      exact ⟨_, rfl, hO.out, hB.out⟩
theorem rboxed_any (w : World) (c : Nat) (aw : Option Addr) (cw : Nat) (vb vk : Value) (W : Nat → Nat) (hC : RefC w c aw cw vb vk W) (v : Value) (X : List Nat) (hv : TextAt w v X) (n : Nat) (en : X.length = n) (hn : n ≤ 1000) :
    Calls Try.prog 58 #[.pointer (some ⟨c, 0, none⟩), v] w fun e w' => ∃ v', e = .returned v' ∧ Own w' w.heap.size 5 v' (u8l (bytesOf (fun i => gbox (byt X i)) n)) ∧ Below w.heap.size w w' :=
  rboxed_core w c vb ((cell_of_row _ _ 1 _ _ _ hC.row).trans rfl) hC.box v X hv n en hn
end Go.Proofs.Ytecmagenlbnchaa
namespace Go.Proofs.Ytecmagenlbnchaa
set_option maxRecDepth 100000
open Go.RowKit

/-- Each row turned to the left by its number. -/
def shF (x : Nat → Nat) : Nat → Nat := fun i => x ((i + 4 * (i % 4)) % 16)

set_option maxHeartbeats 4000000 in
set_option maxRecDepth 100000 in
theorem rrows_any (w : World) (v : Value) (x : Nat → Nat) (hx : Bytes16 x) (hv : TextAt w v (tab x)) :
    Calls Try.prog 85 #[v] w fun e w' => ∃ v', e = .returned v' ∧ Own w' w.heap.size 5 v' (u8l (tab (shF x))) ∧ Below w.heap.size w w' := by
  obtain ⟨ao, cap, rfl, nx⟩ := hv.nth
  rw [length_tab] at nx ⊢
  have cell : ∀ p, p < 16 → ∃ ob oo, ao = some ⟨ob, oo, none⟩ ∧ w.cell? ⟨ob, oo + p, none⟩ = some (.int .u8 (x p : Int)) := fun p hp => by
    obtain ⟨ob, oo, e, h1⟩ := nx p hp
    rw [byt_tab x hp] at h1
    exact ⟨ob, oo, e, h1⟩
  clear nx
  replace hv := Lib.hid hv
  replace hx := Lib.hid hx
  replace cell := Lib.hid cell
  go_enter Try.func85, Try.ntmps85
  go_wp2_with fail
  go_loopw [3, 4] (fun o i wr => ∃ k : Nat, k ≤ 4 ∧ i = .int .i64 k ∧ Own wr w.heap.size 5 o (u8l (bytesOf (shF x) (4 * k))) ∧ Below w.heap.size w wr) (fun _ i _ => 4 - (intOf i).toNat)
  case atStart => exact ⟨0, Nat.zero_le _, rfl, Own.nil _ _ _, Below.refl _ _⟩
  case round =>
    obtain ⟨k, hk, rfl, hO, hB⟩ := hrel
    by_cases hlt : k < 4
    · skip
      replace hO := Lib.hid hO
      replace hB := Lib.hid hB
      obtain ⟨wq, rfl⟩ : ∃ wq : World, wq = wr := ⟨_, rfl⟩
      have d4 : decide ((k : Int) < 4) = true := decide_eq_true (by omega)
      go_wp2_with fail
      go_loopw [3, 5] (fun o i wr => ∃ r : Nat, r ≤ 4 ∧ i = .int .i64 r ∧ Own wr w.heap.size 5 o (u8l (bytesOf (shF x) (4 * k + r))) ∧ Below w.heap.size w wr) (fun _ i _ => 4 - (intOf i).toNat)
      case atStart => exact ⟨0, Nat.zero_le _, rfl, hO.out, hB.out⟩
      case round =>
        obtain ⟨r, hr, rfl, hP, hC⟩ := hrel
        clear hO hB
        by_cases hrt : r < 4
        · obtain ⟨q, eq⟩ : ∃ q, q = (k + r) % 4 := ⟨_, rfl⟩
          obtain ⟨p, ep⟩ : ∃ p, p = 4 * q + r := ⟨_, rfl⟩
          have hp : p < 16 := by omega
          obtain ⟨ob, oo, rfl, c1⟩ := cell.out p hp
          have ed : shF x (4 * k + r) = x p := by
            show x ((4 * k + r + 4 * ((4 * k + r) % 4)) % 16) = x p
            congr 1; omega
          have ld := hx.out p hp
          have sn := bytesOf_snoc (shF x) (4 * k + r)
          have ll : (bytesOf (shF x) (4 * k + r)).length = 4 * k + r := length_bytesOf _ _
          rw [ed] at sn
          generalize bytesOf (shF x) (4 * k + r) = L at *
          generalize x p = d at *
          have hs := hC.size
          have c2 := (hC.cell (block_lt_of_cell c1)).trans c1
          have n1 : IntKind.i64.wrap ((k : Int) + (r : Int)) = (k : Int) + (r : Int) := IntWalk.i64_in _ (by omega)
          have n2 : ((k : Int) + (r : Int)).tmod 4 = (q : Int) := by rw [Int.tmod_eq_emod_of_nonneg (by omega)]; omega
          have n3 : IntKind.i64.wrap (4 * (q : Int)) = 4 * (q : Int) := IntWalk.i64_in _ (by omega)
          have n4 : IntKind.i64.wrap (4 * (q : Int) + (r : Int)) = (p : Int) := by rw [IntWalk.i64_in _ (by omega)]; omega
          have p16 : (p : Int) < 16 := by omega
          have t1 := lit1 (wx := wr) ld
          have Ba : Below w.heap.size w (wr.alloc (.cells #[.int .u8 (d : Int)] 5)) := hC.alloc hs _
          have O1 := hP.alloc (.cells #[.int .u8 (d : Int)] 5)
          replace hP := Lib.hid hP
          replace hC := Lib.hid hC
          replace sn := Lib.hid sn
          replace ld := Lib.hid ld
          replace t1 := Lib.hid t1
          replace Ba := Lib.hid Ba
          replace O1 := Lib.hid O1
          replace eq := Lib.hid eq
          replace ep := Lib.hid ep
          replace hp := Lib.hid hp
          replace ed := Lib.hid ed
          go_wp2_with (at_builtin; refine wpList_append_s (by rfl) (.tmp 14) (.tmp 25) rfl w.heap.size w u3 L rfl O1.out Ba.out Ba.out.size _ [d] rfl t1.out (by rw [ll]; simp; omega) ?_; intro v7 w7 o7 B7)
          go_roundw
          case rel => exact ⟨r + 1, by omega, by go_num, by rw [show 4 * k + (r + 1) = 4 * k + r + 1 from rfl, sn.out]; exact o7.out, B7.out⟩
          case measure => simp [intOf]; omega
        · obtain rfl : r = 4 := by omega
          replace hP := Lib.hid hP
          replace hC := Lib.hid hC
          go_wp2_with fail
          go_roundw
          case rel => exact ⟨k + 1, by omega, by go_num, by rw [show 4 * (k + 1) = 4 * k + 4 from rfl]; exact hP.out, hC.out⟩
          case measure => simp [intOf]; omega
    · obtain rfl : k = 4 := by omega
      replace hO := Lib.hid hO
      replace hB := Lib.hid hB
      go_wp2_with fail
      go_ret
      exact ⟨_, rfl, hO.out, hB.out⟩

set_option maxHeartbeats 4000000 in
set_option maxRecDepth 100000 in
theorem rcolumn_any (w : World) (v u : Value) (y : Nat → Nat) (hy : ∀ i, i < 4 → y i < 256) (fs : List Nat) (hf : Factors fs) (hv : TextAt w v (bytesOf y 4)) (hu : TextAt w u fs) :
    Calls Try.prog 98 #[v, u] w fun e w' => ∃ v', e = .returned v' ∧ Own w' w.heap.size 5 v' (u8l (bytesOf (fun i => colTo fs y i 4) 4)) ∧ Below w.heap.size w w' := by
  obtain ⟨ax, cx, rfl, nx⟩ := hv.nth
  obtain ⟨af, cf, rfl, nf⟩ := hu.nth
  rw [length_bytesOf] at nx ⊢
  have lf : fs.length = 4 := hf.1
  rw [lf] at nf ⊢
  replace hv := Lib.hid hv
  replace hu := Lib.hid hu
  replace nx := Lib.hid nx
  replace nf := Lib.hid nf
  replace hy := Lib.hid hy
  replace hf := Lib.hid hf
  replace lf := Lib.hid lf
  go_enter Try.func98, Try.ntmps98
  go_wp2_with fail
  go_loopw [5, 6] (fun o i wr => ∃ k : Nat, k ≤ 4 ∧ i = .int .i64 k ∧ Own wr w.heap.size 5 o (u8l (bytesOf (fun i => colTo fs y i 4) k)) ∧ Below w.heap.size w wr) (fun _ i _ => 4 - (intOf i).toNat)
  case atStart => exact ⟨0, Nat.zero_le _, rfl, Own.nil _ _ _, Below.refl _ _⟩
  case round =>
    obtain ⟨i, hi, rfl, hO, hB⟩ := hrel
    by_cases hlt : i < 4
    · skip
      replace hO := Lib.hid hO
      replace hB := Lib.hid hB
      obtain ⟨wq, rfl⟩ : ∃ wq : World, wq = wr := ⟨_, rfl⟩
      have d4 : decide ((i : Int) < 4) = true := decide_eq_true (by omega)
      go_wp2_with fail
      go_loopw [7, 8] (fun n kk wr => ∃ k : Nat, k ≤ 4 ∧ kk = .int .i64 k ∧ n = .int .u8 (colTo fs y i k : Int) ∧ wr.heap = wq.heap ∧ Below wq.heap.size wq wr) (fun _ kk _ => 4 - (intOf kk).toNat)
      case atStart => exact ⟨0, Nat.zero_le _, rfl, rfl, rfl, Below.refl _ _⟩
      case round =>
        obtain ⟨k, hk, rfl, rfl, hh, hC⟩ := hrel
        by_cases hkt : k < 4
        · obtain ⟨q, eq⟩ : ∃ q, q = (i + k) % 4 := ⟨_, rfl⟩
          have hq : q < 4 := by omega
          obtain ⟨xb, xo, rfl, c1⟩ := nx.out q hq
          obtain ⟨fb, fo, rfl, c2⟩ := nf.out k hkt
          rw [byt_bytesOf y hq] at c1
          have ly := hy.out q hq
          have lfk := hf.out.lt hkt
          have lc := colTo_lt hf.out y i k hk
          have es : colTo fs y i (k + 1) = colTo fs y i k ^^^ gmul (byt fs k) (y q) := by
            show colTo fs y i k ^^^ gmul (byt fs k) (y (4 * (i / 4) + (i + k) % 4)) = _
            congr 3; omega
          have lg : gmul (byt fs k) (y q) < 256 := gmul_lt _ (by omega)
          have cm := fun (wx : World) => rmul_any (byt fs k) (y q) wx (by omega) ly
          have low := hB.out.trans (hC.mono hB.out.size)
          have c1' : wr.drew.cell? ⟨xb, xo + q, none⟩ = some (.int .u8 (y q : Int)) := (low.cell (block_lt_of_cell c1)).trans c1
          have c2' : wr.drew.cell? ⟨fb, fo + k, none⟩ = some (.int .u8 (byt fs k : Int)) := (low.cell (block_lt_of_cell c2)).trans c2
          have ex := u8_xor_nat (colTo fs y i k) (gmul (byt fs k) (y q)) lc lg
          rw [← es] at ex
          have hC2 : Below wq.heap.size wq wr.drew := hC.drew
          have hh2 : wr.drew.heap = wq.heap := hh
          obtain ⟨n2, en2⟩ : ∃ n2, n2 = colTo fs y i (k + 1) := ⟨_, rfl⟩
          rw [← en2] at es ex
          generalize colTo fs y i k = n1 at *
          generalize gmul (byt fs k) (y q) = m at *
          generalize byt fs k = f at *
          generalize y q = yq at *
          have m1 : IntKind.i64.wrap ((i : Int) + (k : Int)) = (i : Int) + (k : Int) := IntWalk.i64_in _ (by omega)
          have m2 : ((i : Int) + (k : Int)).tmod 4 = (q : Int) := by rw [Int.tmod_eq_emod_of_nonneg (by omega)]; omega
          have q4 : (q : Int) < 4 := by omega
          have k4 : (k : Int) < 4 := by omega
          clear c1 c2
          replace hh := Lib.hid hh
          replace hC := Lib.hid hC
          replace hC2 := Lib.hid hC2
          replace hh2 := Lib.hid hh2
          replace low := Lib.hid low
          replace cm := Lib.hid cm
          replace es := Lib.hid es
          replace lc := Lib.hid lc
          replace lg := Lib.hid lg
          replace ly := Lib.hid ly
          replace lfk := Lib.hid lfk
          replace eq := Lib.hid eq
          replace en2 := Lib.hid en2
          go_wp2_with fail
          refine wp_region_held_drew (S := (fun w' => w'.cell? ⟨xb, xo + q, none⟩ = some (.int .u8 (yq : Int)) ∧ w'.cell? ⟨fb, fo + k, none⟩ = some (.int .u8 (f : Int)))) (by kernel_rfl) (⟨c1', c2'⟩) (fun hHeld => ?_)
          refine held_take (i := 0) (v := ?_) rfl (by kernel_rfl) (by kernel_rfl) (by kernel_rfl) (fun _ _ _ h => h) (Or.inl ⟨by rfl, ?_⟩) (by assumption) ?_
          rotate_left
          · intro w hSw; (try dsimp only at hSw); go_simp; try with_reducible rfl
          try simp only [Act.put, List.setIfInBounds_toArray, List.set_cons_zero, List.set_cons_succ]
          refine held_take (i := 1) (v := ?_) rfl (by kernel_rfl) (by kernel_rfl) (by kernel_rfl) (fun _ _ _ h => h) (Or.inl ⟨by rfl, ?_⟩) (by assumption) ?_
          rotate_left
          · intro w hSw; (try dsimp only at hSw); go_simp; try with_reducible rfl
          try simp only [Act.put, List.setIfInBounds_toArray, List.set_cons_zero, List.set_cons_succ]
          refine held_take (i := 2) (v := ?_) rfl (by kernel_rfl) (by kernel_rfl) (by kernel_rfl) (fun _ _ _ h => h) (Or.inl ⟨by rfl, ?_⟩) (by assumption) ?_
          rotate_left
          · intro w hSw; (try dsimp only at hSw); go_simp; try with_reducible rfl
          try simp only [Act.put, List.setIfInBounds_toArray, List.set_cons_zero, List.set_cons_succ]
          refine held_take (i := 3) (v := ?_) rfl (by kernel_rfl) (by kernel_rfl) (by kernel_rfl) (fun _ _ _ h => h) (Or.inl ⟨by rfl, ?_⟩) (by assumption) ?_
          rotate_left
          · intro w hSw; (try dsimp only at hSw); go_simp; try with_reducible rfl
          try simp only [Act.put, List.setIfInBounds_toArray, List.set_cons_zero, List.set_cons_succ]
          refine held_take (i := 4) (v := ?_) rfl (by kernel_rfl) (by kernel_rfl) (by kernel_rfl) (fun _ _ _ h => h) (Or.inl ⟨by rfl, ?_⟩) (by assumption) ?_
          rotate_left
          · intro w hSw; (try dsimp only at hSw); go_simp; try with_reducible rfl
          try simp only [Act.put, List.setIfInBounds_toArray, List.set_cons_zero, List.set_cons_succ]
          refine held_take (i := 5) (v := ?_) rfl (by kernel_rfl) (by kernel_rfl) (by kernel_rfl) (fun _ _ _ h => h) (Or.inl ⟨by rfl, ?_⟩) (by assumption) ?_
          rotate_left
          · intro w hSw; (try dsimp only at hSw); go_simp; try with_reducible rfl
          try simp only [Act.put, List.setIfInBounds_toArray, List.set_cons_zero, List.set_cons_succ]
          refine held_take (i := 6) (v := ?_) rfl (by kernel_rfl) (by kernel_rfl) (by kernel_rfl) (fun _ _ _ h => h) (Or.inl ⟨by rfl, ?_⟩) (by assumption) ?_
          rotate_left
          · intro w hSw; (try dsimp only at hSw); go_simp; try with_reducible rfl
          try simp only [Act.put, List.setIfInBounds_toArray, List.set_cons_zero, List.set_cons_succ]
          refine held_take (i := 7) (v := ?_) rfl (by kernel_rfl) (by kernel_rfl) (by kernel_rfl) (fun _ _ _ h => h) (Or.inl ⟨by rfl, ?_⟩) (by assumption) ?_
          rotate_left
          · intro w hSw; (try dsimp only at hSw); go_simp; try with_reducible rfl
          try simp only [Act.put, List.setIfInBounds_toArray, List.set_cons_zero, List.set_cons_succ]
          refine held_take (i := 8) (v := ?_) rfl (by kernel_rfl) (by kernel_rfl) (by kernel_rfl) (fun _ _ _ h => h) (Or.inl ⟨by rfl, ?_⟩) (by assumption) ?_
          rotate_left
          · intro w hSw; (try dsimp only at hSw); go_simp; try with_reducible rfl
          try simp only [Act.put, List.setIfInBounds_toArray, List.set_cons_zero, List.set_cons_succ]
          refine held_take (i := 9) (v := ?_) rfl (by kernel_rfl) (by kernel_rfl) (by kernel_rfl) (fun _ _ _ h => h) (Or.inl ⟨by rfl, ?_⟩) (by assumption) ?_
          rotate_left
          · intro w hSw; (try dsimp only at hSw); go_simp; try with_reducible rfl
          try simp only [Act.put, List.setIfInBounds_toArray, List.set_cons_zero, List.set_cons_succ]
          refine held_take (i := 10) (v := ?_) rfl (by kernel_rfl) (by kernel_rfl) (by kernel_rfl) (fun _ _ _ h => h) (Or.inl ⟨by rfl, ?_⟩) (by assumption) ?_
          rotate_left
          · intro w hSw; (try dsimp only at hSw); go_simp; try with_reducible rfl
          try simp only [Act.put, List.setIfInBounds_toArray, List.set_cons_zero, List.set_cons_succ]
          refine held_take (i := 11) (v := ?_) rfl (by kernel_rfl) (by kernel_rfl) (by kernel_rfl) (fun _ _ _ h => h) (Or.inl ⟨by rfl, ?_⟩) (by assumption) ?_
          rotate_left
          · intro w hSw; (try dsimp only at hSw); go_simp; try with_reducible rfl
          try simp only [Act.put, List.setIfInBounds_toArray, List.set_cons_zero, List.set_cons_succ]
          refine held_ready (i := 12) rfl (by kernel_rfl) (fun K hK => ?_)
          go_simp
          refine (cm.out _).mono ?_
          rintro e w3 ⟨rfl, rfl⟩
          refine hK.out _ _ (⟨c1', c2'⟩) (fun hHeldN => ?_)
          clear hHeld hK K
          have hHeld := hHeldN
          clear hHeldN
          try simp only [Act.put, List.setIfInBounds_toArray, List.set_cons_zero, List.set_cons_succ]
          refine held_take (i := 13) (v := ?_) rfl (by kernel_rfl) (by kernel_rfl) (by kernel_rfl) (fun _ _ _ h => h) (Or.inl ⟨by rfl, ?_⟩) (by assumption) ?_
          rotate_left
          · intro w hSw; (try dsimp only at hSw); go_simp; try with_reducible rfl
          try simp only [Act.put, List.setIfInBounds_toArray, List.set_cons_zero, List.set_cons_succ]
          refine held_take (i := 14) (v := ?_) rfl (by kernel_rfl) (by kernel_rfl) (by kernel_rfl) (fun _ _ _ h => h) (Or.inl ⟨by rfl, ?_⟩) (by assumption) ?_
          rotate_left
          · intro w hSw; (try dsimp only at hSw); go_simp; try with_reducible rfl
          try simp only [Act.put, List.setIfInBounds_toArray, List.set_cons_zero, List.set_cons_succ]
          refine wpAnyH_done (by kernel_rfl) ?_ _
          clear hHeld
          go_wp2_with fail
          go_roundw
          case rel => exact ⟨k + 1, by omega, by go_num, by rw [← en2.out], hh2.out, hC2.out⟩
          case measure => simp [intOf]; omega
        · obtain rfl : k = 4 := by omega
          have ld := colTo_lt hf.out y i 4 (Nat.le_refl _)
          have sn := bytesOf_snoc (fun i => colTo fs y i 4) i
          have ll : (bytesOf (fun i => colTo fs y i 4) i).length = i := length_bytesOf _ _
          have low := hB.out.trans (hC.mono hB.out.size)
          have hs := low.size
          have hOw := hO.out.below hC
          generalize bytesOf (fun i => colTo fs y i 4) i = L at *
          generalize colTo fs y i 4 = d at *
          have t1 := lit1 (wx := wr) ld
          have Ba : Below w.heap.size w (wr.alloc (.cells #[.int .u8 (d : Int)] 5)) := low.alloc hs _
          have O1 := hOw.alloc (.cells #[.int .u8 (d : Int)] 5)
          clear hOw
          replace hh := Lib.hid hh
          replace hC := Lib.hid hC
          replace low := Lib.hid low
          replace sn := Lib.hid sn
          replace ld := Lib.hid ld
          replace t1 := Lib.hid t1
          replace Ba := Lib.hid Ba
          replace O1 := Lib.hid O1
          go_wp2_with (at_builtin; refine wpList_append_s (by rfl) (.tmp 31) (.tmp 33) rfl w.heap.size w u5 L rfl O1.out Ba.out Ba.out.size _ [d] rfl t1.out (by rw [ll]; simp; omega) ?_; intro v7 w7 o7 B7)
          go_roundw
          case rel => exact ⟨i + 1, by omega, by go_num, by rw [sn.out]; exact o7.out, B7.out⟩
          case measure => simp [intOf]; omega
    · obtain rfl : i = 4 := by omega
      replace hO := Lib.hid hO
      replace hB := Lib.hid hB
      go_wp2_with fail
      go_ret
      exact ⟨_, rfl, hO.out, hB.out⟩

theorem col_shift (fs : List Nat) (x : Nat → Nat) (q : Nat) {i : Nat} (hi : i < 4) : ∀ k, colTo fs (fun j => x (4 * q + j)) i k = colTo fs x (4 * q + i) k
  | 0 => rfl
  | k + 1 => by
    show colTo fs (fun j => x (4 * q + j)) i k ^^^ gmul (byt fs k) (x (4 * q + (4 * (i / 4) + (i + k) % 4))) = colTo fs x (4 * q + i) k ^^^ gmul (byt fs k) (x (4 * ((4 * q + i) / 4) + (4 * q + i + k) % 4))
    rw [col_shift fs x q hi k]
    congr 3; omega
theorem take_tab (x : Nat → Nat) {q : Nat} (hq : q < 4) : ((tab x).drop (4 * q)).take 4 = bytesOf (fun j => x (4 * q + j)) 4 := by
  have e : tab x = bytesOf x (4 * q) ++ (bytesOf (fun j => x (4 * q + j)) 4 ++ bytesOf (fun j => x (4 * q + 4 + j)) (16 - (4 * q + 4))) := by
    show bytesOf x 16 = _
    rw [show (16 : Nat) = 4 * q + (4 + (16 - (4 * q + 4))) by omega, bytesOf_add, bytesOf_add]
    congr 2
    have e2 : 4 * q + (4 + (16 - (4 * q + 4))) - (4 * q + 4) = 16 - (4 * q + 4) := by omega
    rw [e2]
    refine bytesOf_congr fun j _ => ?_
    rw [Nat.add_assoc]
  rw [e, List.drop_left' (length_bytesOf _ _), List.take_left' (length_bytesOf _ _)]
set_option maxHeartbeats 4000000 in
set_option maxRecDepth 100000 in
theorem rcolumns_any (w : World) (v u : Value) (x : Nat → Nat) (hx : Bytes16 x) (fs : List Nat) (hf : Factors fs) (hv : TextAt w v (tab x)) (hu : TextAt w u fs) :
    Calls Try.prog 86 #[v, u] w fun e w' => ∃ v', e = .returned v' ∧ Own w' w.heap.size 5 v' (u8l (tab (fun j => colTo fs x j 4))) ∧ Below w.heap.size w w' := by
  obtain ⟨ax, cx, rfl, cxl, _⟩ := hv.ex
  have lt16 := length_tab x
  obtain ⟨af, cf, rfl, _⟩ := hu.ex
  have lf : fs.length = 4 := hf.1
  have cuts := fun q (hq : q < 4) => TextAt.cut (lo := 4 * q) (hi := 4 * q + 4) hv (by omega) (by rw [lt16]; omega)
  rw [lt16] at cxl ⊢
  rw [lf] at hu ⊢
  have cutt : ∀ q, q < 4 → TextAt w (.slice (cutA ax cx (4 * q)) 4 (cx - 4 * q)) (bytesOf (fun j => x (4 * q + j)) 4) := fun q hq => by
    have h := cuts q hq
    rw [show 4 * q + 4 - 4 * q = 4 by omega, take_tab x hq] at h
    exact h
  clear cuts
  replace hv := Lib.hid hv
  replace hu := Lib.hid hu
  replace hx := Lib.hid hx
  replace hf := Lib.hid hf
  replace lf := Lib.hid lf
  replace lt16 := Lib.hid lt16
  replace cutt := Lib.hid cutt
  go_enter Try.func86, Try.ntmps86
  go_wp2_with fail
  go_loopw [5, 6] (fun o i wr => ∃ q : Nat, q ≤ 4 ∧ i = .int .i64 ((4 * q : Nat) : Int) ∧ Own wr w.heap.size 5 o (u8l (bytesOf (fun j => colTo fs x j 4) (4 * q))) ∧ Below w.heap.size w wr) (fun _ i _ => 16 - (intOf i).toNat)
  case atStart => exact ⟨0, Nat.zero_le _, rfl, Own.nil _ _ _, Below.refl _ _⟩
  case round =>
    obtain ⟨q, hq, rfl, hO, hB⟩ := hrel
    by_cases hlt : q < 4
    · have tc := (cutt.out q hlt).below hB
      have tf := hu.out.below hB
      have cc := rcolumn_any wr _ _ (fun j => x (4 * q + j)) (fun i hi => hx.out _ (by omega)) fs hf.out tc tf
      have e4 : bytesOf (fun i => colTo fs (fun j => x (4 * q + j)) i 4) 4 = bytesOf (fun i => colTo fs x (4 * q + i) 4) 4 := bytesOf_congr fun i hi => col_shift fs x q hi 4
      rw [e4] at cc
      have ea := bytesOf_add (fun j => colTo fs x j 4) (4 * q) 4
      have lA : (bytesOf (fun j => colTo fs x j 4) (4 * q)).length = 4 * q := length_bytesOf _ _
      have lB : (bytesOf (fun i => colTo fs x (4 * q + i) 4) 4).length = 4 := length_bytesOf _ _
      have sB : ∀ y ∈ bytesOf (fun i => colTo fs x (4 * q + i) 4) 4, y < 256 := bytesOf_lt fun i hi => colTo_lt hf.out x _ 4 (Nat.le_refl _)
      generalize bytesOf (fun j => colTo fs x j 4) (4 * q) = L at *
      generalize bytesOf (fun i => colTo fs x (4 * q + i) 4) 4 = M at *
      have hs := hB.size
      obtain ⟨z, ez⟩ : ∃ z, z = 4 * q := ⟨_, rfl⟩
      rw [← ez]
      have n1 : IntKind.i64.wrap ((z : Int) + 4) = (z : Int) + 4 := IntWalk.i64_in _ (by omega)
      have cut := run_cut_lh (P := Try.prog) (T := 25) (e := 5) Try.underlying25 (by kernel_rfl) ax 16 cx z (z + 4) (by omega) (by omega) ((z : Int)) ((z : Int) + 4) rfl (by omega)
      rw [show z + 4 - z = 4 by omega] at cut
      rw [← ez] at cc
      have z16 : decide ((z : Int) < 16) = true := decide_eq_true (by omega)
      clear tc tf
      replace hO := Lib.hid hO
      replace hB := Lib.hid hB
      replace cc := Lib.hid cc
      replace e4 := Lib.hid e4
      replace ea := Lib.hid ea
      replace lA := Lib.hid lA
      replace lB := Lib.hid lB
      replace sB := Lib.hid sB
      replace ez := Lib.hid ez
      go_wp2_with fail
      refine cc.out.mono ?_
      rintro e w3 ⟨v3, rfl, o3, B3⟩
      have O3 := hO.out.below B3
      have low3 := hB.out.trans (B3.mono hs)
      have t3 := o3.text sB.out
      replace o3 := Lib.hid o3
      replace B3 := Lib.hid B3
      replace O3 := Lib.hid O3
      replace low3 := Lib.hid low3
      replace t3 := Lib.hid t3
      go_wp2_with (at_builtin; refine wpList_append_s (by rfl) (.tmp 11) (.tmp 18) rfl w.heap.size w u5 L rfl O3.out low3.out low3.out.size v3 M rfl t3.out (by rw [lA.out, lB.out]; omega) ?_; intro v7 w7 o7 B7)
      go_roundw
      case rel => exact ⟨q + 1, by omega, by have := ez.out; go_num, by rw [show 4 * (q + 1) = 4 * q + 4 from rfl, ea.out]; exact o7.out, B7.out⟩
      case measure => simp [intOf]; have := ez.out; omega
    · obtain rfl : q = 4 := by omega
      replace hO := Lib.hid hO
      replace hB := Lib.hid hB
      go_wp2_with fail
      go_ret
      exact ⟨_, rfl, hO.out, hB.out⟩

set_option maxHeartbeats 4000000 in
set_option maxRecDepth 100000 in
theorem rround_any (w : World) (c : Nat) (aw : Option Addr) (cw : Nat) (vb vk : Value) (W : Nat → Nat) (hW : ∀ i, W i < 256) (hC : RefC w c aw cw vb vk W) (r : Nat) (hr : r < 15) :
    Calls Try.prog 84 #[.pointer (some ⟨c, 0, none⟩), .int .i64 (r : Int)] w fun e w' => ∃ v', e = .returned v' ∧ Own w' w.heap.size 5 v' (u8l (bytesOf (fun i => W (16 * r + i)) 16)) ∧ Below w.heap.size w w' := by
  have lw : (wordsT W).length = 60 := by simp [wordsT]
  have c0 : w.cell? ⟨c, 0, none⟩ = some (.slice aw 60 cw) := (cell_of_row _ _ 0 _ _ _ hC.row).trans rfl
  have hwords : ∀ i, i < 60 → ∃ ob oo ai ci, aw = some ⟨ob, oo, none⟩ ∧ w.cell? ⟨ob, oo + i, none⟩ = some (.slice ai 4 ci) ∧ TextAt w (.slice ai 4 ci) (bytesOf (fun k => W (4 * i + k)) 4) := fun i hi => by
    obtain ⟨ob, oo, e, ai, ci, h1, h2, h3, h4⟩ := hC.words i (by rw [lw]; exact hi)
    have eg : (wordsT W).getD i [] = bytesOf (fun k => W (4 * i + k)) 4 := by simp [wordsT, List.getD, hi]
    rw [eg, length_bytesOf] at h1 h2 h3
    exact ⟨ob, oo, ai, ci, e, h1, ⟨ai, ci, by rw [length_bytesOf], by rw [length_bytesOf]; exact h2, h4, by rw [length_bytesOf]; exact h3⟩⟩
  replace hC := Lib.hid hC
  replace lw := Lib.hid lw
  replace c0 := Lib.hid c0
  replace hwords := Lib.hid hwords
  replace hW := Lib.hid hW
  go_enter Try.func84, Try.ntmps84
  have r1 : IntKind.i64.wrap (4 * (r : Int)) = ((4 * r : Nat) : Int) := by rw [IntWalk.i64_in _ (by omega)]; omega
  obtain ⟨z, ez⟩ : ∃ z, z = 4 * r := ⟨_, rfl⟩
  rw [← ez] at r1
  have r2 : IntKind.i64.wrap ((z : Int) + 4) = (z : Int) + 4 := IntWalk.i64_in _ (by omega)
  replace ez := Lib.hid ez
  go_wp2_with fail
  go_loopw [5, 6] (fun o i wr => ∃ k : Nat, k ≤ 4 ∧ i = .int .i64 ((z + k : Nat) : Int) ∧ Own wr w.heap.size 5 o (u8l (bytesOf (fun i => W (16 * r + i)) (4 * k))) ∧ Below w.heap.size w wr) (fun _ i _ => z + 4 - (intOf i).toNat)
  case atStart => exact ⟨0, Nat.zero_le _, by simp, Own.nil _ _ _, Below.refl _ _⟩
  case round =>
    obtain ⟨k, hk, rfl, hO, hB⟩ := hrel
    by_cases hlt : k < 4
    · obtain ⟨q, eq⟩ : ∃ q, q = z + k := ⟨_, rfl⟩
      rw [← eq]
      have hq60 : q < 60 := by have := ez.out; omega
      obtain ⟨ob, oo, ai, ci, rfl, h1, h2⟩ := hwords.out q hq60
      have ew : (fun k => W (4 * q + k)) = (fun j => W (16 * r + (4 * k + j))) := funext fun j => by congr 1; have := ez.out; omega
      have ea := bytesOf_add (fun i => W (16 * r + i)) (4 * k) 4
      rw [ew] at h2
      have lA : (bytesOf (fun i => W (16 * r + i)) (4 * k)).length = 4 * k := length_bytesOf _ _
      have lB : (bytesOf (fun i => W (16 * r + (4 * k + i))) 4).length = 4 := length_bytesOf _ _
      generalize bytesOf (fun i => W (16 * r + i)) (4 * k) = L at *
      generalize bytesOf (fun i => W (16 * r + (4 * k + i))) 4 = M at *
      have q0 := (hB.cell (block_lt_of_cell c0.out)).trans c0.out
      have q1 := (hB.cell (block_lt_of_cell h1)).trans h1
      have t1 := h2.below hB
      have hs := hB.size
      have qlt : decide ((q : Int) < (z : Int) + 4) = true := decide_eq_true (by omega)
      have q6 : (q : Int) < 60 := by omega
      clear h1
      replace hO := Lib.hid hO
      replace hB := Lib.hid hB
      replace ea := Lib.hid ea
      replace lA := Lib.hid lA
      replace lB := Lib.hid lB
      replace h2 := Lib.hid h2
      replace t1 := Lib.hid t1
      replace eq := Lib.hid eq
      replace ew := Lib.hid ew
      go_wp2_with (at_builtin; refine wpList_append_s (by rfl) (.tmp 16) (.tmp 23) rfl w.heap.size w u5 L rfl hO.out hB.out hs (.slice ai 4 ci) M rfl t1.out (by rw [lA.out, lB.out]; omega) ?_; intro v7 w7 o7 B7)
      go_roundw
      case rel => exact ⟨k + 1, by omega, by have := eq.out; go_num, by rw [show 4 * (k + 1) = 4 * k + 4 from rfl, ea.out]; exact o7.out, B7.out⟩
      case measure => simp [intOf]; have := eq.out; omega
    · obtain rfl : k = 4 := by omega
      have qlt : decide (((z + 4 : Nat) : Int) < (z : Int) + 4) = false := decide_eq_false (by omega)
      replace hO := Lib.hid hO
      replace hB := Lib.hid hB
      go_wp2_with fail
      go_ret
      exact ⟨_, rfl, hO.out, hB.out⟩
end Go.Proofs.Ytecmagenlbnchaa
namespace Go.Proofs.Ytecmagenlbnchaa
set_option maxRecDepth 100000
open Go.RowKit

theorem tabs_lt {f : Nat → Nat} (h : Bytes16 f) : ∀ x ∈ tab f, x < 256 := bytesOf_lt (s := f) (len := 16) h
theorem boxed_tab (y : Nat → Nat) : bytesOf (fun i => gbox (byt (tab y) i)) 16 = tab (fun i => gbox (y i)) := bytesOf_congr fun i hi => by rw [byt_tab y hi]
theorem xored_tab (W y : Nat → Nat) (r : Nat) : bytesOf (xorF (tab y) (bytesOf (fun i => W (16 * r + i)) 16)) 16 = tab (addF W r y) := bytesOf_congr fun i hi => by
  unfold xorF addF
  rw [byt_tab y hi, byt_bytesOf _ hi]
theorem cols_tab (f0 f1 f2 f3 : Nat) (x : Nat → Nat) : tab (fun j => colTo [f0, f1, f2, f3] x j 4) = tab (colsF f0 f1 f2 f3 x) := tab_ext fun j _ => by
  unfold colsF
  show 0 ^^^ gmul f0 (x (4 * (j / 4) + (j + 0) % 4)) ^^^ gmul f1 (x (4 * (j / 4) + (j + 1) % 4)) ^^^ gmul f2 (x (4 * (j / 4) + (j + 2) % 4)) ^^^ gmul f3 (x (4 * (j / 4) + (j + 3) % 4)) = _
  rw [Nat.zero_xor]
theorem sh_three (x : Nat → Nat) : tab (shF (shF (shF x))) = tab (fun i => x ((i + 12 * (i % 4)) % 16)) := tab_ext fun i hi => by
  unfold shF
  congr 1; omega
theorem Bytes16.sh {x : Nat → Nat} (h : Bytes16 x) : Bytes16 (shF x) := fun i _ => h _ (Nat.mod_lt _ (by decide))
/-- A literal of bytes, just made, as a text. -/
theorem litL {wx : World} {l : List Nat} (hs : ∀ x ∈ l, x < 256) (_h0 : 0 < l.length) : TextAt (wx.alloc (.cells (u8s l) 5)) (.slice (some ⟨wx.heap.size, 0, none⟩) l.length l.length) l := by
  refine ⟨some ⟨wx.heap.size, 0, none⟩, l.length, rfl, Nat.le_refl _, fun e => by simp at e, fun i hi => ?_⟩
  refine ⟨byt_lt hs i, wx.heap.size, 0, rfl, ?_⟩
  rw [Nat.zero_add]
  have r : RowB (wx.alloc (.cells (u8s l) 5)) wx.heap.size 5 l := heap_alloc_new _ _
  exact r.byt hi

set_option maxHeartbeats 4000000 in
set_option maxRecDepth 100000 in
theorem rturn_any (w : World) (c : Nat) (aw : Option Addr) (cw : Nat) (vb vk : Value) (W : Nat → Nat) (hW : ∀ i, W i < 256) (hC : RefC w c aw cw vb vk W) (v : Value) (x : Nat → Nat) (hx : Bytes16 x) (hv : TextAt w v (tab x)) :
    Calls Try.prog 61 #[.pointer (some ⟨c, 0, none⟩), v] w fun e w' => ∃ v', e = .returned v' ∧ Own w' w.heap.size 5 v' (u8l (tab (turnF W x))) ∧ Below w.heap.size w w' := by
  have r0 := rround_any w c aw cw vb vk W hW hC 0 (by decide)
  replace hC := Lib.hid hC
  replace hv := Lib.hid hv
  replace hx := Lib.hid hx
  replace hW := Lib.hid hW
  replace r0 := Lib.hid r0
  go_enter Try.func61, Try.ntmps61
  go_wp2_with fail
  refine r0.out.mono ?_
  rintro e w1 ⟨v1, rfl, o1, B1⟩
  have t1 := o1.text (bytesOf_lt fun i _ => hW.out _)
  have xx := rxored_any w1 v v1 (tab x) _ (hv.out.below B1) t1 16 (length_tab x) (by simp [length_bytesOf]) (by decide)
  rw [xored_tab] at xx
  replace o1 := Lib.hid o1
  replace B1 := Lib.hid B1
  replace t1 := Lib.hid t1
  replace xx := Lib.hid xx
  go_wp2_with fail
  refine xx.out.mono ?_
  rintro e w2 ⟨v2, rfl, o2, B2⟩
  have low2 := B1.out.trans (B2.mono B1.out.size)
  have o2' := o2.weaken B1.out.size
  clear o2 B2 xx r0 o1 B1 t1
  replace low2 := Lib.hid low2
  replace o2' := Lib.hid o2'
  go_wp2_with fail
  go_loopw [1, 5] (fun bv rv wr => ∃ r : Nat, r ≤ 14 ∧ rv = .int .i64 ((r : Int) + 1) ∧ Own wr w.heap.size 5 bv (u8l (tab (turnTo W x r))) ∧ Below w.heap.size w wr) (fun _ rv _ => 15 - (intOf rv).toNat)
  case atStart => exact ⟨0, by decide, rfl, o2'.out, low2.out⟩
  case round =>
    clear low2 o2'
    obtain ⟨r, hr, rfl, hO, hB⟩ := hrel
    by_cases hlt : r < 14
    · have by0 := bytes_turnTo hW.out hx.out r
      have er := turnTo_succ W x r
      generalize turnTo W x r = y at *
      have c1 := rboxed_any wr c aw cw vb vk W (hC.out.below hB) _ (tab y) (hO.text (tabs_lt by0)) 16 (length_tab y) (by decide)
      rw [boxed_tab] at c1
      have bx : Bytes16 (fun i => gbox (y i)) := fun i hi => gbox_lt (by0 i hi)
      replace hO := Lib.hid hO
      replace hB := Lib.hid hB
      replace by0 := Lib.hid by0
      replace er := Lib.hid er
      replace c1 := Lib.hid c1
      replace bx := Lib.hid bx
      go_wp2_with fail
      refine c1.out.mono ?_
      rintro e w3 ⟨v3, rfl, o3, B3⟩
      have low3 := hB.out.trans (B3.mono hB.out.size)
      have c3 := rrows_any w3 v3 _ bx.out (o3.text (tabs_lt bx.out))
      rw [show shF (fun i => gbox (y i)) = rowsF gbox y from rfl] at c3
      clear c1 bx
      replace o3 := Lib.hid o3
      replace B3 := Lib.hid B3
      replace low3 := Lib.hid low3
      replace c3 := Lib.hid c3
      go_wp2_with fail
      refine c3.out.mono ?_
      rintro e w4 ⟨v4, rfl, o4, B4⟩
      have low4 := low3.out.trans (B4.mono low3.out.size)
      have b5 := by0.out.rows
      have o4' := o4.weaken low3.out.size
      clear c3 o3 low3 B3 B4 o4
      obtain ⟨y5, ey5⟩ : ∃ z, z = rowsF gbox y := ⟨_, rfl⟩
      rw [← ey5] at b5 o4'
      by_cases h13 : r + 1 < 14
      · have er : addF W (r + 1) (colsF 2 3 1 1 y5) = turnTo W x (r + 1) := by rw [er.out]; unfold midF; rw [if_pos h13, ← ey5]
        have b6 := b5.cols (a := 2) (b := 3) (c := 1) (d := 1) (by decide) (by decide) (by decide) (by decide)
        have tl := litL (wx := w4) (l := [2, 3, 1, 1]) (by decide) (by decide)
        have Ba : Below w4.heap.size w4 (w4.alloc (.cells (u8s [2, 3, 1, 1]) 5)) := (Below.refl _ _).alloc (Nat.le_refl _) _
        have lowa := low4.trans (Ba.mono low4.size)
        have c6 := rcolumns_any _ v4 _ y5 b5 [2, 3, 1, 1] ⟨rfl, by decide⟩ ((o4'.text (tabs_lt b5)).below Ba) tl
        rw [cols_tab] at c6
        clear tl Ba
        replace er := Lib.hid er
        replace b5 := Lib.hid b5
        replace b6 := Lib.hid b6
        replace c6 := Lib.hid c6
        replace lowa := Lib.hid lowa
        replace low4 := Lib.hid low4
        replace o4' := Lib.hid o4'
        replace ey5 := Lib.hid ey5
        go_wp2_with fail
        refine c6.out.mono ?_
        rintro e w6 ⟨v6, rfl, o6', B6⟩
        have low6 := lowa.out.trans (B6.mono lowa.out.size)
        have o6 := o6'.weaken lowa.out.size
        clear c6 B6 o6' lowa low4 o4'
        replace er := er.out
        generalize colsF 2 3 1 1 y5 = y6 at *
        replace low6 := Lib.hid low6
        replace o6 := Lib.hid o6
        have c7 := rround_any w6 c aw cw vb vk W hW.out (hC.out.below low6.out) (r + 1) (by omega)
        rw [show (((r + 1 : Nat) : Int)) = (r : Int) + 1 by omega] at c7
        replace c7 := Lib.hid c7
        replace er := Lib.hid er
        go_wp2_with fail
        refine c7.out.mono ?_
        rintro e w7 ⟨v7, rfl, o7, B7⟩
        have low7 := low6.out.trans (B7.mono low6.out.size)
        have c8 := rxored_any w7 v6 v7 (tab y6) _ ((o6.out.text (tabs_lt b6.out)).below B7) (o7.text (bytesOf_lt fun i _ => hW.out _)) 16 (length_tab y6) (by simp [length_bytesOf]) (by decide)
        rw [xored_tab] at c8
        clear c7 B7 o7
        replace low7 := Lib.hid low7
        replace c8 := Lib.hid c8
        go_wp2_with fail
        refine c8.out.mono ?_
        rintro e w8 ⟨v8, rfl, o8, B8⟩
        have low8 := low7.out.trans (B8.mono low7.out.size)
        have o9 := o8.weaken low7.out.size
        rw [er.out] at o9
        clear c8 B8 o8
        replace low8 := Lib.hid low8
        replace o9 := Lib.hid o9
        go_wp2_with fail
        go_roundw
        case rel => exact ⟨r + 1, by omega, by go_num, o9.out, low8.out⟩
        case measure => simp [intOf]; omega
      · have er : addF W (r + 1) y5 = turnTo W x (r + 1) := by rw [er.out]; unfold midF; rw [if_neg h13, ← ey5]
        have low6 := low4
        have o6 := o4'
        have b6 := Lib.hid b5
        clear low4 o4' b5
        generalize y5 = y6 at *
        generalize w4 = w6 at *
        generalize v4 = v6 at *
        replace low6 := Lib.hid low6
        replace o6 := Lib.hid o6
        replace ey5 := Lib.hid ey5
        have c7 := rround_any w6 c aw cw vb vk W hW.out (hC.out.below low6.out) (r + 1) (by omega)
        rw [show (((r + 1 : Nat) : Int)) = (r : Int) + 1 by omega] at c7
        replace c7 := Lib.hid c7
        replace er := Lib.hid er
        go_wp2_with fail
        refine c7.out.mono ?_
        rintro e w7 ⟨v7, rfl, o7, B7⟩
        have low7 := low6.out.trans (B7.mono low6.out.size)
        have c8 := rxored_any w7 v6 v7 (tab y6) _ ((o6.out.text (tabs_lt b6.out)).below B7) (o7.text (bytesOf_lt fun i _ => hW.out _)) 16 (length_tab y6) (by simp [length_bytesOf]) (by decide)
        rw [xored_tab] at c8
        clear c7 B7 o7
        replace low7 := Lib.hid low7
        replace c8 := Lib.hid c8
        go_wp2_with fail
        refine c8.out.mono ?_
        rintro e w8 ⟨v8, rfl, o8, B8⟩
        have low8 := low7.out.trans (B8.mono low7.out.size)
        have o9 := o8.weaken low7.out.size
        rw [er.out] at o9
        clear c8 B8 o8
        replace low8 := Lib.hid low8
        replace o9 := Lib.hid o9
        go_wp2_with fail
        go_roundw
        case rel => exact ⟨r + 1, by omega, by go_num, o9.out, low8.out⟩
        case measure => simp [intOf]; omega
    · obtain rfl : r = 14 := by omega
      have eT : turnTo W x 14 = turnF W x := rfl
      rw [eT] at hO
      clear eT
      replace hO := Lib.hid hO
      replace hB := Lib.hid hB
      go_wp2_with fail
      go_ret
      exact ⟨_, rfl, hO.out, hB.out⟩
end Go.Proofs.Ytecmagenlbnchaa
namespace Go.Proofs.Ytecmagenlbnchaa
set_option maxRecDepth 100000
open Go.RowKit

theorem back_sh (x : Nat → Nat) : bytesOf (fun i => gunb (byt (tab (shF (shF (shF x)))) i)) 16 = tab (rowsB gunb x) := bytesOf_congr fun i hi => by
  rw [sh_three, byt_tab _ hi]; rfl
set_option maxHeartbeats 4000000 in
set_option maxRecDepth 100000 in
theorem rback_any (w : World) (c : Nat) (aw : Option Addr) (cw : Nat) (vb vk : Value) (W : Nat → Nat) (hW : ∀ i, W i < 256) (hC : RefC w c aw cw vb vk W) (v : Value) (x : Nat → Nat) (hx : Bytes16 x) (hv : TextAt w v (tab x)) :
    Calls Try.prog 64 #[.pointer (some ⟨c, 0, none⟩), v] w fun e w' => ∃ v', e = .returned v' ∧ Own w' w.heap.size 5 v' (u8l (tab (backF W x))) ∧ Below w.heap.size w w' := by
  obtain ⟨ak, ck, rfl, nk⟩ := hC.unb.nth
  have lk : unbT.length = 256 := length_bytesOf _ _
  rw [lk] at nk
  have c2 : w.cell? ⟨c, 2, none⟩ = some (.slice ak 256 ck) := by
    rw [cell_of_row _ _ 2 _ _ _ hC.row, lk]; rfl
  have nk' : ∀ k, k < 256 → ∃ kb ko, ak = some ⟨kb, ko, none⟩ ∧ w.cell? ⟨kb, ko + k, none⟩ = some (.int .u8 (gunb k : Int)) := fun k hk => by
    obtain ⟨kb, ko, e, h1⟩ := nk k hk
    rw [show byt unbT k = gunb k from byt_bytesOf _ hk] at h1
    exact ⟨kb, ko, e, h1⟩
  clear nk
  rw [lk] at hC
  replace hC := Lib.hid hC
  replace hv := Lib.hid hv
  replace hx := Lib.hid hx
  replace hW := Lib.hid hW
  replace c2 := Lib.hid c2
  replace nk' := Lib.hid nk'
  replace lk := Lib.hid lk
  go_enter Try.func64, Try.ntmps64
  go_wp2_with fail
  go_loopw [1, 5] (fun bv rv wr => ∃ k r : Nat, k + r = 14 ∧ rv = .int .i64 (r : Int) ∧ TextAt wr bv (tab (backTo W x k)) ∧ Below w.heap.size w wr) (fun _ rv _ => (intOf rv).toNat)
  case atStart => exact ⟨0, 14, rfl, rfl, hv.out, Below.refl _ _⟩
  case round =>
    obtain ⟨k, r, hkr, rfl, hT, hB⟩ := hrel
    obtain ⟨wq, rfl⟩ : ∃ wq : World, wq = wr := ⟨_, rfl⟩
    by_cases hlt : 0 < r
    · have by0 := bytes_backTo hW.out hx.out k
      have er := backTo_succ W x k
      rw [show 14 - k = r by omega] at er
      generalize backTo W x k = y at *
      have c1 := rround_any wq c aw cw vb _ W hW.out (hC.out.below hB) r (by omega)
      have b2 := by0.add hW.out r
      replace hT := Lib.hid hT
      replace hB := Lib.hid hB
      replace by0 := Lib.hid by0
      replace er := Lib.hid er
      replace c1 := Lib.hid c1
      replace b2 := Lib.hid b2
      go_wp2_with fail
      refine c1.out.mono ?_
      rintro e w2 ⟨v2, rfl, o2, B2⟩
      have low2 := hB.out.trans (B2.mono hB.out.size)
      have c3 := rxored_any w2 _ v2 (tab y) _ (hT.out.below B2) (o2.text (bytesOf_lt fun i _ => hW.out _)) 16 (length_tab y) (by simp [length_bytesOf]) (by decide)
      rw [xored_tab] at c3
      clear c1 B2 o2 hB hT
      replace low2 := Lib.hid low2
      replace c3 := Lib.hid c3
      go_wp2_with fail
      refine c3.out.mono ?_
      rintro e w4 ⟨v4, rfl, o4, B4⟩
      have low4 := low2.out.trans (B4.mono low2.out.size)
      clear c3 low2 B4
      obtain ⟨y2, ey2⟩ : ∃ z, z = addF W r y := ⟨_, rfl⟩
      rw [← ey2] at b2 er o4
      have t4 := o4.text (tabs_lt b2.out)
      clear o4
      replace low4 := Lib.hid low4
      replace t4 := Lib.hid t4
      replace ey2 := Lib.hid ey2
      by_cases h13 : r < 14
      · have er : rowsB gunb (colsF 14 11 13 9 y2) = backTo W x (k + 1) := by rw [er.out]; unfold midB; rw [if_pos h13]
        have b6 := b2.out.cols (a := 14) (b := 11) (c := 13) (d := 9) (by decide) (by decide) (by decide) (by decide)
        have tl := litL (wx := w4) (l := [14, 11, 13, 9]) (by decide) (by decide)
        have Ba : Below w4.heap.size w4 (w4.alloc (.cells (u8s [14, 11, 13, 9]) 5)) := (Below.refl _ _).alloc (Nat.le_refl _) _
        have lowa := low4.out.trans (Ba.mono low4.out.size)
        have c6 := rcolumns_any _ v4 _ y2 b2.out [14, 11, 13, 9] ⟨rfl, by decide⟩ (t4.out.below Ba) tl
        rw [cols_tab] at c6
        clear tl Ba
        replace er := Lib.hid er
        replace b6 := Lib.hid b6
        replace c6 := Lib.hid c6
        replace lowa := Lib.hid lowa
        go_wp2_with fail
        refine c6.out.mono ?_
        rintro e w6 ⟨v6, rfl, o6', B6⟩
        have low6 := lowa.out.trans (B6.mono lowa.out.size)
        have t6 := o6'.text (tabs_lt b6.out)
        clear c6 B6 o6' lowa low4 t4 b2
        replace er := er.out
        obtain ⟨y6, ey6⟩ : ∃ z, z = colsF 14 11 13 9 y2 := ⟨_, rfl⟩
        rw [← ey6] at er b6 t6
        replace low6 := Lib.hid low6
        replace t6 := Lib.hid t6
        replace ey6 := Lib.hid ey6
        have c7 := rrows_any w6 v6 y6 b6.out t6.out
        replace er := Lib.hid er
        replace c7 := Lib.hid c7
        go_wp2_with fail
        refine c7.out.mono ?_
        rintro e w7 ⟨v7, rfl, o7, B7⟩
        have low7 := low6.out.trans (B7.mono low6.out.size)
        have b7 := b6.out.sh
        have c8 := rrows_any w7 v7 (shF y6) b7 (o7.text (tabs_lt b7))
        clear c7 B7 o7
        replace low7 := Lib.hid low7
        replace b7 := Lib.hid b7
        replace c8 := Lib.hid c8
        go_wp2_with fail
        refine c8.out.mono ?_
        rintro e w8 ⟨v8, rfl, o8, B8⟩
        have low8 := low7.out.trans (B8.mono low7.out.size)
        have b8 := b7.out.sh
        have c9 := rrows_any w8 v8 (shF (shF y6)) b8 (o8.text (tabs_lt b8))
        clear c8 B8 o8
        replace low8 := Lib.hid low8
        replace b8 := Lib.hid b8
        replace c9 := Lib.hid c9
        go_wp2_with fail
        refine c9.out.mono ?_
        rintro e w9 ⟨v9, rfl, o9, B9⟩
        have low9 := low8.out.trans (B9.mono low8.out.size)
        have b9 := b8.out.sh
        have t9 := o9.text (tabs_lt b9)
        replace er : bytesOf (fun i => gunb (byt (tab (shF (shF (shF y6)))) i)) 16 = tab (backTo W x (k + 1)) := by rw [back_sh]; exact congrArg tab er.out
        obtain ⟨ax, cx, rfl, nx⟩ := t9.nth
        rw [length_tab] at nx ⊢
        have nx' : ∀ i, i < 16 → ∃ xb xo, ax = some ⟨xb, xo, none⟩ ∧ w9.cell? ⟨xb, xo + i, none⟩ = some (.int .u8 (byt (tab (shF (shF (shF y6)))) i : Int)) := nx
        have sx := tabs_lt b9
        obtain ⟨X, eX⟩ : ∃ X, X = tab (shF (shF (shF y6))) := ⟨_, rfl⟩
        rw [← eX] at nx' sx er
        clear c9 B9 o9 t9 b9 b8 b7 nx low8 low7 low6 t6
        replace low9 := Lib.hid low9
        replace nx' := Lib.hid nx'
        replace sx := Lib.hid sx
        replace eX := Lib.hid eX
        replace er := Lib.hid er
        go_wp2_with fail
        go_loopw [6, 7] (fun o i wr => ∃ k : Nat, k ≤ 16 ∧ i = .int .i64 k ∧ Own wr w9.heap.size 5 o (u8l (bytesOf (fun i => gunb (byt X i)) k)) ∧ Below w9.heap.size w9 wr) (fun _ i _ => 16 - (intOf i).toNat)
        case atStart => exact ⟨0, Nat.zero_le _, rfl, Own.nil _ _ _, Below.refl _ _⟩
        case round =>
          obtain ⟨i, hi, rfl, iO, iB⟩ := hrel
          by_cases hit : i < 16
          · obtain ⟨xb, xo, rfl, cX⟩ := nx'.out i hit
            have bx := byt_lt sx.out i
            obtain ⟨kb, ko, rfl, cK⟩ := nk'.out (byt X i) bx
            have lowr := low9.out.trans (iB.mono low9.out.size)
            have key0 : ∀ w1, Below w9.heap.size w9 w1 → w1.cell? ⟨c, 2, none⟩ = some (.slice (some ⟨kb, ko, none⟩) 256 ck) := fun w1 hB1 => ((low9.out.trans (hB1.mono low9.out.size)).cell (block_lt_of_cell c2.out)).trans c2.out
            have keyX : ∀ w1, Below w9.heap.size w9 w1 → w1.cell? ⟨xb, xo + i, none⟩ = some (.int .u8 (byt X i : Int)) := fun w1 hB1 => (hB1.cell (block_lt_of_cell cX)).trans cX
            have keyK : ∀ w1, Below w9.heap.size w9 w1 → w1.cell? ⟨kb, ko + byt X i, none⟩ = some (.int .u8 (gunb (byt X i) : Int)) := fun w1 hB1 => ((low9.out.trans (hB1.mono low9.out.size)).cell (block_lt_of_cell cK)).trans cK
            have ld : gunb (byt X i) < 256 := gunb_lt bx
            have sn := bytesOf_snoc (fun i => gunb (byt X i)) i
            have hs := iB.size
            have ll : (bytesOf (fun i => gunb (byt X i)) i).length = i := length_bytesOf _ _
            generalize bytesOf (fun i => gunb (byt X i)) i = L at *
            generalize gunb (byt X i) = d at *
            generalize byt X i = xi at *
            have iX : (i : Int) < 16 := by omega
            have iK : (xi : Int) < 256 := by omega
            have hBd : Below w9.heap.size w9 wr.drew := iB.drew
            have q1 := key0 _ hBd
            have q2 := keyX _ hBd
            have q3 := keyK _ hBd
            have t1 := lit1 (wx := wr.drew) ld
            have hB1 : Below w9.heap.size w9 (wr.drew.alloc (.cells #[.int .u8 (d : Int)] 5)) := hBd.alloc hs _
            have O1 : Own (wr.drew.alloc (.cells #[.int .u8 (d : Int)] 5)) w9.heap.size 5 _ _ := iO.drew.alloc _
            clear cX cK lowr
            replace iO := Lib.hid iO
            replace iB := Lib.hid iB
            replace sn := Lib.hid sn
            replace key0 := Lib.hid key0
            replace keyX := Lib.hid keyX
            replace keyK := Lib.hid keyK
            replace bx := Lib.hid bx
            replace ld := Lib.hid ld
            replace t1 := Lib.hid t1
            replace hB1 := Lib.hid hB1
            replace O1 := Lib.hid O1
            replace hBd := Lib.hid hBd
            go_wp2_with fail
            refine wp_region_held_drew (S := (fun w' => w'.cell? ⟨c, 2, none⟩ = some (.slice (some ⟨kb, ko, none⟩) 256 ck) ∧ w'.cell? ⟨xb, xo + i, none⟩ = some (.int .u8 (xi : Int)) ∧ w'.cell? ⟨kb, ko + xi, none⟩ = some (.int .u8 (d : Int)))) (by kernel_rfl) (⟨q1, q2, q3⟩) (fun hHeld => ?_)
            refine held_take (i := 0) (v := ?_) rfl (by kernel_rfl) (by kernel_rfl) (by kernel_rfl) (fun _ _ _ h => h) (Or.inl ⟨by rfl, ?_⟩) (by assumption) ?_
            rotate_left
            · intro w hSw; (try dsimp only at hSw); go_simp; try with_reducible rfl
            try simp only [Act.put, List.setIfInBounds_toArray, List.set_cons_zero, List.set_cons_succ]
            refine held_take (i := 1) (v := ?_) rfl (by kernel_rfl) (by kernel_rfl) (by kernel_rfl) (fun _ _ _ h => h) (Or.inl ⟨by rfl, ?_⟩) (by assumption) ?_
            rotate_left
            · intro w hSw; (try dsimp only at hSw); go_simp; try with_reducible rfl
            try simp only [Act.put, List.setIfInBounds_toArray, List.set_cons_zero, List.set_cons_succ]
            refine held_take (i := 2) (v := ?_) rfl (by kernel_rfl) (by kernel_rfl) (by kernel_rfl) (fun _ _ _ h => h) (Or.inl ⟨by rfl, ?_⟩) (by assumption) ?_
            rotate_left
            · intro w hSw; (try dsimp only at hSw); go_simp; try with_reducible rfl
            try simp only [Act.put, List.setIfInBounds_toArray, List.set_cons_zero, List.set_cons_succ]
            refine held_take (i := 3) (v := ?_) rfl (by kernel_rfl) (by kernel_rfl) (by kernel_rfl) (fun _ _ _ h => h) (Or.inl ⟨by rfl, ?_⟩) (by assumption) ?_
            rotate_left
            · intro w hSw; (try dsimp only at hSw); go_simp; try with_reducible rfl
            try simp only [Act.put, List.setIfInBounds_toArray, List.set_cons_zero, List.set_cons_succ]
            refine held_take (i := 4) (v := ?_) rfl (by kernel_rfl) (by kernel_rfl) (by kernel_rfl) (fun _ _ _ h => h) (Or.inl ⟨by rfl, ?_⟩) (by assumption) ?_
            rotate_left
            · intro w hSw; (try dsimp only at hSw); go_simp; try with_reducible rfl
            try simp only [Act.put, List.setIfInBounds_toArray, List.set_cons_zero, List.set_cons_succ]
            refine held_take (i := 5) (v := ?_) rfl (by kernel_rfl) (by kernel_rfl) (by kernel_rfl) (fun _ _ _ h => h) (Or.inl ⟨by rfl, ?_⟩) (by assumption) ?_
            rotate_left
            · intro w hSw; (try dsimp only at hSw); go_simp; try with_reducible rfl
            try simp only [Act.put, List.setIfInBounds_toArray, List.set_cons_zero, List.set_cons_succ]
            refine held_take (i := 6) (v := ?_) rfl (by kernel_rfl) (by kernel_rfl) (by kernel_rfl) (fun _ _ _ h => h) (Or.inl ⟨by rfl, ?_⟩) (by assumption) ?_
            rotate_left
            · intro w hSw; (try dsimp only at hSw); go_simp; try with_reducible rfl
            try simp only [Act.put, List.setIfInBounds_toArray, List.set_cons_zero, List.set_cons_succ]
            refine held_take (i := 7) (v := ?_) rfl (by kernel_rfl) (by kernel_rfl) (by kernel_rfl) (fun _ _ _ h => h) (Or.inl ⟨by rfl, ?_⟩) (by assumption) ?_
            rotate_left
            · intro w hSw; (try dsimp only at hSw); go_simp; try with_reducible rfl
            try simp only [Act.put, List.setIfInBounds_toArray, List.set_cons_zero, List.set_cons_succ]
            refine held_take (i := 8) (v := ?_) rfl (by kernel_rfl) (by kernel_rfl) (by kernel_rfl) (fun _ _ _ h => h) (Or.inl ⟨by rfl, ?_⟩) (by assumption) ?_
            rotate_left
            · intro w hSw; (try dsimp only at hSw); go_simp; try with_reducible rfl
            try simp only [Act.put, List.setIfInBounds_toArray, List.set_cons_zero, List.set_cons_succ]
            refine held_take (i := 9) (v := ?_) rfl (by kernel_rfl) (by kernel_rfl) (by kernel_rfl) (fun _ _ _ h => h) (Or.inl ⟨by rfl, ?_⟩) (by assumption) ?_
            rotate_left
            · intro w hSw; (try dsimp only at hSw); go_simp; try with_reducible rfl
            try simp only [Act.put, List.setIfInBounds_toArray, List.set_cons_zero, List.set_cons_succ]
            refine held_take (i := 10) (v := ?_) rfl (by kernel_rfl) (by kernel_rfl) (by kernel_rfl) (fun _ _ _ h => h) (Or.inl ⟨by rfl, ?_⟩) (by assumption) ?_
            rotate_left
            · intro w hSw; (try dsimp only at hSw); go_simp; try with_reducible rfl
            try simp only [Act.put, List.setIfInBounds_toArray, List.set_cons_zero, List.set_cons_succ]
            refine held_ready (i := 11) rfl (by kernel_rfl) (fun K hK => ?_)
            rw [if_pos (by rfl)]
            go_simp
            refine hK.out _ _ (⟨key0.out _ hB1.out, keyX.out _ hB1.out, keyK.out _ hB1.out⟩) (fun hHeldN => ?_)
            clear hHeld hK K
            have hHeld := hHeldN
            clear hHeldN
            try simp only [Act.put, List.setIfInBounds_toArray, List.set_cons_zero, List.set_cons_succ]
            refine held_ready (i := 12) rfl (by kernel_rfl) (fun K hK => ?_)
            rw [if_pos (by rfl)]
            refine wp_append_t (.tmp 30) (.tmp 41) rfl w9.heap.size w9 _ L rfl O1.out hB1.out hB1.out.size _ [d] rfl t1.out (by rw [ll]; simp; omega) ?_
            intro v1 w1 O2 BB2 G2 H2
            rw [← sn.out] at O2
            refine hK.out _ _ (⟨key0.out _ BB2.out, keyX.out _ BB2.out, keyK.out _ BB2.out⟩) (fun hHeldN => ?_)
            clear hHeld hK K
            have hHeld := hHeldN
            clear hHeldN
            try simp only [Act.put, List.setIfInBounds_toArray, List.set_cons_zero, List.set_cons_succ]
            refine held_take (i := 13) (v := ?_) rfl (by kernel_rfl) (by kernel_rfl) (by kernel_rfl) (fun _ _ _ h => h) (Or.inl ⟨by rfl, ?_⟩) (by assumption) ?_
            rotate_left
            · intro w hSw; (try dsimp only at hSw); go_simp; try with_reducible rfl
            try simp only [Act.put, List.setIfInBounds_toArray, List.set_cons_zero, List.set_cons_succ]
            refine wpAnyH_done (by kernel_rfl) ?_ _
            clear hHeld
            go_wp2_with fail
            go_roundw
            case rel => exact ⟨i + 1, by omega, by go_num, O2.out, BB2.out⟩
            case measure => simp [intOf]; omega
          · obtain rfl : i = 16 := by omega
            have tE := iO.text (bytesOf_lt fun i _ => gunb_lt (byt_lt sx.out i))
            rw [er.out] at tE
            have lowE := low9.out.trans (iB.mono low9.out.size)
            replace iO := Lib.hid iO
            replace iB := Lib.hid iB
            replace tE := Lib.hid tE
            replace lowE := Lib.hid lowE
            go_wp2_with fail
            go_roundw
            case rel => exact ⟨k + 1, r - 1, by omega, by go_num, tE.out, lowE.out⟩
            case measure => simp [intOf]; omega
      · have er : rowsB gunb y2 = backTo W x (k + 1) := by rw [er.out]; unfold midB; rw [if_neg h13]
        have low6 := low4
        have t6 := t4
        have b6 := b2
        clear low4 t4 b2
        generalize y2 = y6 at *
        generalize w4 = w6 at *
        generalize v4 = v6 at *
        have c7 := rrows_any w6 v6 y6 b6.out t6.out
        replace er := Lib.hid er
        replace c7 := Lib.hid c7
        go_wp2_with fail
        refine c7.out.mono ?_
        rintro e w7 ⟨v7, rfl, o7, B7⟩
        have low7 := low6.out.trans (B7.mono low6.out.size)
        have b7 := b6.out.sh
        have c8 := rrows_any w7 v7 (shF y6) b7 (o7.text (tabs_lt b7))
        clear c7 B7 o7
        replace low7 := Lib.hid low7
        replace b7 := Lib.hid b7
        replace c8 := Lib.hid c8
        go_wp2_with fail
        refine c8.out.mono ?_
        rintro e w8 ⟨v8, rfl, o8, B8⟩
        have low8 := low7.out.trans (B8.mono low7.out.size)
        have b8 := b7.out.sh
        have c9 := rrows_any w8 v8 (shF (shF y6)) b8 (o8.text (tabs_lt b8))
        clear c8 B8 o8
        replace low8 := Lib.hid low8
        replace b8 := Lib.hid b8
        replace c9 := Lib.hid c9
        go_wp2_with fail
        refine c9.out.mono ?_
        rintro e w9 ⟨v9, rfl, o9, B9⟩
        have low9 := low8.out.trans (B9.mono low8.out.size)
        have b9 := b8.out.sh
        have t9 := o9.text (tabs_lt b9)
        replace er : bytesOf (fun i => gunb (byt (tab (shF (shF (shF y6)))) i)) 16 = tab (backTo W x (k + 1)) := by rw [back_sh]; exact congrArg tab er.out
        obtain ⟨ax, cx, rfl, nx⟩ := t9.nth
        rw [length_tab] at nx ⊢
        have nx' : ∀ i, i < 16 → ∃ xb xo, ax = some ⟨xb, xo, none⟩ ∧ w9.cell? ⟨xb, xo + i, none⟩ = some (.int .u8 (byt (tab (shF (shF (shF y6)))) i : Int)) := nx
        have sx := tabs_lt b9
        obtain ⟨X, eX⟩ : ∃ X, X = tab (shF (shF (shF y6))) := ⟨_, rfl⟩
        rw [← eX] at nx' sx er
        clear c9 B9 o9 t9 b9 b8 b7 nx low8 low7 low6 t6
        replace low9 := Lib.hid low9
        replace nx' := Lib.hid nx'
        replace sx := Lib.hid sx
        replace eX := Lib.hid eX
        replace er := Lib.hid er
        go_wp2_with fail
        go_loopw [6, 7] (fun o i wr => ∃ k : Nat, k ≤ 16 ∧ i = .int .i64 k ∧ Own wr w9.heap.size 5 o (u8l (bytesOf (fun i => gunb (byt X i)) k)) ∧ Below w9.heap.size w9 wr) (fun _ i _ => 16 - (intOf i).toNat)
        case atStart => exact ⟨0, Nat.zero_le _, rfl, Own.nil _ _ _, Below.refl _ _⟩
        case round =>
          obtain ⟨i, hi, rfl, iO, iB⟩ := hrel
          by_cases hit : i < 16
          · obtain ⟨xb, xo, rfl, cX⟩ := nx'.out i hit
            have bx := byt_lt sx.out i
            obtain ⟨kb, ko, rfl, cK⟩ := nk'.out (byt X i) bx
            have lowr := low9.out.trans (iB.mono low9.out.size)
            have key0 : ∀ w1, Below w9.heap.size w9 w1 → w1.cell? ⟨c, 2, none⟩ = some (.slice (some ⟨kb, ko, none⟩) 256 ck) := fun w1 hB1 => ((low9.out.trans (hB1.mono low9.out.size)).cell (block_lt_of_cell c2.out)).trans c2.out
            have keyX : ∀ w1, Below w9.heap.size w9 w1 → w1.cell? ⟨xb, xo + i, none⟩ = some (.int .u8 (byt X i : Int)) := fun w1 hB1 => (hB1.cell (block_lt_of_cell cX)).trans cX
            have keyK : ∀ w1, Below w9.heap.size w9 w1 → w1.cell? ⟨kb, ko + byt X i, none⟩ = some (.int .u8 (gunb (byt X i) : Int)) := fun w1 hB1 => ((low9.out.trans (hB1.mono low9.out.size)).cell (block_lt_of_cell cK)).trans cK
            have ld : gunb (byt X i) < 256 := gunb_lt bx
            have sn := bytesOf_snoc (fun i => gunb (byt X i)) i
            have hs := iB.size
            have ll : (bytesOf (fun i => gunb (byt X i)) i).length = i := length_bytesOf _ _
            generalize bytesOf (fun i => gunb (byt X i)) i = L at *
            generalize gunb (byt X i) = d at *
            generalize byt X i = xi at *
            have iX : (i : Int) < 16 := by omega
            have iK : (xi : Int) < 256 := by omega
            have hBd : Below w9.heap.size w9 wr.drew := iB.drew
            have q1 := key0 _ hBd
            have q2 := keyX _ hBd
            have q3 := keyK _ hBd
            have t1 := lit1 (wx := wr.drew) ld
            have hB1 : Below w9.heap.size w9 (wr.drew.alloc (.cells #[.int .u8 (d : Int)] 5)) := hBd.alloc hs _
            have O1 : Own (wr.drew.alloc (.cells #[.int .u8 (d : Int)] 5)) w9.heap.size 5 _ _ := iO.drew.alloc _
            clear cX cK lowr
            replace iO := Lib.hid iO
            replace iB := Lib.hid iB
            replace sn := Lib.hid sn
            replace key0 := Lib.hid key0
            replace keyX := Lib.hid keyX
            replace keyK := Lib.hid keyK
            replace bx := Lib.hid bx
            replace ld := Lib.hid ld
            replace t1 := Lib.hid t1
            replace hB1 := Lib.hid hB1
            replace O1 := Lib.hid O1
            replace hBd := Lib.hid hBd
            go_wp2_with fail
            refine wp_region_held_drew (S := (fun w' => w'.cell? ⟨c, 2, none⟩ = some (.slice (some ⟨kb, ko, none⟩) 256 ck) ∧ w'.cell? ⟨xb, xo + i, none⟩ = some (.int .u8 (xi : Int)) ∧ w'.cell? ⟨kb, ko + xi, none⟩ = some (.int .u8 (d : Int)))) (by kernel_rfl) (⟨q1, q2, q3⟩) (fun hHeld => ?_)
            refine held_take (i := 0) (v := ?_) rfl (by kernel_rfl) (by kernel_rfl) (by kernel_rfl) (fun _ _ _ h => h) (Or.inl ⟨by rfl, ?_⟩) (by assumption) ?_
            rotate_left
            · intro w hSw; (try dsimp only at hSw); go_simp; try with_reducible rfl
            try simp only [Act.put, List.setIfInBounds_toArray, List.set_cons_zero, List.set_cons_succ]
            refine held_take (i := 1) (v := ?_) rfl (by kernel_rfl) (by kernel_rfl) (by kernel_rfl) (fun _ _ _ h => h) (Or.inl ⟨by rfl, ?_⟩) (by assumption) ?_
            rotate_left
            · intro w hSw; (try dsimp only at hSw); go_simp; try with_reducible rfl
            try simp only [Act.put, List.setIfInBounds_toArray, List.set_cons_zero, List.set_cons_succ]
            refine held_take (i := 2) (v := ?_) rfl (by kernel_rfl) (by kernel_rfl) (by kernel_rfl) (fun _ _ _ h => h) (Or.inl ⟨by rfl, ?_⟩) (by assumption) ?_
            rotate_left
            · intro w hSw; (try dsimp only at hSw); go_simp; try with_reducible rfl
            try simp only [Act.put, List.setIfInBounds_toArray, List.set_cons_zero, List.set_cons_succ]
            refine held_take (i := 3) (v := ?_) rfl (by kernel_rfl) (by kernel_rfl) (by kernel_rfl) (fun _ _ _ h => h) (Or.inl ⟨by rfl, ?_⟩) (by assumption) ?_
            rotate_left
            · intro w hSw; (try dsimp only at hSw); go_simp; try with_reducible rfl
            try simp only [Act.put, List.setIfInBounds_toArray, List.set_cons_zero, List.set_cons_succ]
            refine held_take (i := 4) (v := ?_) rfl (by kernel_rfl) (by kernel_rfl) (by kernel_rfl) (fun _ _ _ h => h) (Or.inl ⟨by rfl, ?_⟩) (by assumption) ?_
            rotate_left
            · intro w hSw; (try dsimp only at hSw); go_simp; try with_reducible rfl
            try simp only [Act.put, List.setIfInBounds_toArray, List.set_cons_zero, List.set_cons_succ]
            refine held_take (i := 5) (v := ?_) rfl (by kernel_rfl) (by kernel_rfl) (by kernel_rfl) (fun _ _ _ h => h) (Or.inl ⟨by rfl, ?_⟩) (by assumption) ?_
            rotate_left
            · intro w hSw; (try dsimp only at hSw); go_simp; try with_reducible rfl
            try simp only [Act.put, List.setIfInBounds_toArray, List.set_cons_zero, List.set_cons_succ]
            refine held_take (i := 6) (v := ?_) rfl (by kernel_rfl) (by kernel_rfl) (by kernel_rfl) (fun _ _ _ h => h) (Or.inl ⟨by rfl, ?_⟩) (by assumption) ?_
            rotate_left
            · intro w hSw; (try dsimp only at hSw); go_simp; try with_reducible rfl
            try simp only [Act.put, List.setIfInBounds_toArray, List.set_cons_zero, List.set_cons_succ]
            refine held_take (i := 7) (v := ?_) rfl (by kernel_rfl) (by kernel_rfl) (by kernel_rfl) (fun _ _ _ h => h) (Or.inl ⟨by rfl, ?_⟩) (by assumption) ?_
            rotate_left
            · intro w hSw; (try dsimp only at hSw); go_simp; try with_reducible rfl
            try simp only [Act.put, List.setIfInBounds_toArray, List.set_cons_zero, List.set_cons_succ]
            refine held_take (i := 8) (v := ?_) rfl (by kernel_rfl) (by kernel_rfl) (by kernel_rfl) (fun _ _ _ h => h) (Or.inl ⟨by rfl, ?_⟩) (by assumption) ?_
            rotate_left
            · intro w hSw; (try dsimp only at hSw); go_simp; try with_reducible rfl
            try simp only [Act.put, List.setIfInBounds_toArray, List.set_cons_zero, List.set_cons_succ]
            refine held_take (i := 9) (v := ?_) rfl (by kernel_rfl) (by kernel_rfl) (by kernel_rfl) (fun _ _ _ h => h) (Or.inl ⟨by rfl, ?_⟩) (by assumption) ?_
            rotate_left
            · intro w hSw; (try dsimp only at hSw); go_simp; try with_reducible rfl
            try simp only [Act.put, List.setIfInBounds_toArray, List.set_cons_zero, List.set_cons_succ]
            refine held_take (i := 10) (v := ?_) rfl (by kernel_rfl) (by kernel_rfl) (by kernel_rfl) (fun _ _ _ h => h) (Or.inl ⟨by rfl, ?_⟩) (by assumption) ?_
            rotate_left
            · intro w hSw; (try dsimp only at hSw); go_simp; try with_reducible rfl
            try simp only [Act.put, List.setIfInBounds_toArray, List.set_cons_zero, List.set_cons_succ]
            refine held_ready (i := 11) rfl (by kernel_rfl) (fun K hK => ?_)
            rw [if_pos (by rfl)]
            go_simp
            refine hK.out _ _ (⟨key0.out _ hB1.out, keyX.out _ hB1.out, keyK.out _ hB1.out⟩) (fun hHeldN => ?_)
            clear hHeld hK K
            have hHeld := hHeldN
            clear hHeldN
            try simp only [Act.put, List.setIfInBounds_toArray, List.set_cons_zero, List.set_cons_succ]
            refine held_ready (i := 12) rfl (by kernel_rfl) (fun K hK => ?_)
            rw [if_pos (by rfl)]
            refine wp_append_t (.tmp 30) (.tmp 41) rfl w9.heap.size w9 _ L rfl O1.out hB1.out hB1.out.size _ [d] rfl t1.out (by rw [ll]; simp; omega) ?_
            intro v1 w1 O2 BB2 G2 H2
            rw [← sn.out] at O2
            refine hK.out _ _ (⟨key0.out _ BB2.out, keyX.out _ BB2.out, keyK.out _ BB2.out⟩) (fun hHeldN => ?_)
            clear hHeld hK K
            have hHeld := hHeldN
            clear hHeldN
            try simp only [Act.put, List.setIfInBounds_toArray, List.set_cons_zero, List.set_cons_succ]
            refine held_take (i := 13) (v := ?_) rfl (by kernel_rfl) (by kernel_rfl) (by kernel_rfl) (fun _ _ _ h => h) (Or.inl ⟨by rfl, ?_⟩) (by assumption) ?_
            rotate_left
            · intro w hSw; (try dsimp only at hSw); go_simp; try with_reducible rfl
            try simp only [Act.put, List.setIfInBounds_toArray, List.set_cons_zero, List.set_cons_succ]
            refine wpAnyH_done (by kernel_rfl) ?_ _
            clear hHeld
            go_wp2_with fail
            go_roundw
            case rel => exact ⟨i + 1, by omega, by go_num, O2.out, BB2.out⟩
            case measure => simp [intOf]; omega
          · obtain rfl : i = 16 := by omega
            have tE := iO.text (bytesOf_lt fun i _ => gunb_lt (byt_lt sx.out i))
            rw [er.out] at tE
            have lowE := low9.out.trans (iB.mono low9.out.size)
            replace iO := Lib.hid iO
            replace iB := Lib.hid iB
            replace tE := Lib.hid tE
            replace lowE := Lib.hid lowE
            go_wp2_with fail
            go_roundw
            case rel => exact ⟨k + 1, r - 1, by omega, by go_num, tE.out, lowE.out⟩
            case measure => simp [intOf]; omega
    · obtain rfl : r = 0 := by omega
      obtain rfl : k = 14 := by omega
      have by0 := bytes_backTo hW.out hx.out 14
      have c1 := rround_any wq c aw cw vb _ W hW.out (hC.out.below hB) 0 (by omega)
      replace hT := Lib.hid hT
      replace hB := Lib.hid hB
      replace by0 := Lib.hid by0
      replace c1 := Lib.hid c1
      go_wp2_with fail
      refine c1.out.mono ?_
      rintro e w2 ⟨v2, rfl, o2, B2⟩
      have low2 := hB.out.trans (B2.mono hB.out.size)
      have c3 := rxored_any w2 _ v2 (tab (backTo W x 14)) _ (hT.out.below B2) (o2.text (bytesOf_lt fun i _ => hW.out _)) 16 (length_tab _) (by simp [length_bytesOf]) (by decide)
      rw [xored_tab, show addF W 0 (backTo W x 14) = backF W x from rfl] at c3
      clear c1 B2 o2
      replace low2 := Lib.hid low2
      replace c3 := Lib.hid c3
      go_wp2_with fail
      refine c3.out.mono ?_
      rintro e w4 ⟨v4, rfl, o4, B4⟩
      have low4 := low2.out.trans (B4.mono low2.out.size)
      have o5 := o4.weaken low2.out.size
      clear c3 B4 o4
      replace low4 := Lib.hid low4
      replace o5 := Lib.hid o5
      go_wp2_with fail
      go_ret
      exact ⟨_, rfl, o5.out, low4.out⟩
end Go.Proofs.Ytecmagenlbnchaa
namespace Go.Proofs.Ytecmagenlbnchaa
set_option maxRecDepth 100000
open Go.RowKit

theorem rpow_lt {a : Nat} (_ha : a < 256) : ∀ n, rpow a n < 256
  | 0 => show 1 < 256 by decide
  | n + 1 => Nat.mod_lt _ (by decide)
theorem rpow_succ (a n : Nat) : rpow a (n + 1) = rmul (rpow a n) a := rfl
set_option maxHeartbeats 1000000 in
set_option maxRecDepth 100000 in
theorem rpower_any (a n : Nat) (w : World) (ha : a < 256) (hn : n < 1000) :
    Calls Try.prog 59 #[.int .u8 (a : Int), .int .i64 (n : Int)] w fun e w' => e = .returned (.int .u8 (rpow a n : Int)) ∧ w = w' := by
  go_enter Try.func59, Try.ntmps59
  go_wp2_with fail
  go_loop [5, 6] (fun ov iv => ∃ k : Nat, k ≤ n ∧ ov = .int .u8 (rpow a k : Int) ∧ iv = .int .i64 k) (fun _ iv => n - (intOf iv).toNat)
  case atStart => exact ⟨0, Nat.zero_le _, rfl, rfl⟩
  case round =>
    obtain ⟨k, hk, rfl, rfl⟩ := hrel
    by_cases hlt : k < n
    · have hr := rpow_lt ha k
      have cm := Lib.hid (rmul_any (rpow a k) a w hr ha)
      rw [← rmul_eq hr ha, ← rpow_succ] at cm
      generalize rpow a k = x at *
      generalize hy : rpow a (k + 1) = y at *
      replace hr := Lib.hid hr
      replace hy := Lib.hid hy
      go_wp2_with fail
      refine cm.out.mono ?_
      rintro e w2 ⟨rfl, rfl⟩
      go_wp2_with fail
      go_round
      case rel => exact ⟨k + 1, by omega, by rw [hy.out], by go_num⟩
      case measure => simp [intOf]; omega
    · obtain rfl : k = n := by omega
      go_wp2_with fail
      go_ret
      exact ⟨rfl, rfl⟩

theorem mul_none {a : Nat} (ha : a < 256) : rmul a 0 ≠ 1 := fun h => by
  have h2 := eq_of_beq (of_all (p := fun a => rmul a 0 == 0) (by decide +kernel) ha)
  rw [h2] at h
  exact absurd h (by decide)
theorem inv_pos {a : Nat} (ha : a < 256) (h0 : a ≠ 0) : ginv a ≠ 0 := fun h => by
  have h1 := (inv_iff ha h0 (ginv_lt ha)).2 rfl
  rw [h] at h1
  exact mul_none ha h1
theorem inv_zero : ginv 0 = 0 := by unfold ginv; rw [if_pos rfl]
set_option maxHeartbeats 1000000 in
set_option maxRecDepth 100000 in
theorem rinv_any (a : Nat) (w : World) (ha : a < 256) :
    Calls Try.prog 96 #[.int .u8 (a : Int)] w fun e w' => e = .returned (.int .u8 (ginv a : Int)) ∧ w = w' := by
  obtain ⟨G, hG⟩ : ∃ G, G = ginv a := ⟨_, rfl⟩
  rw [← hG]
  replace hG := Lib.hid hG
  go_enter Try.func96, Try.ntmps96
  go_wp2_with fail
  go_loop [3] (fun iv => ∃ k : Nat, 1 ≤ k ∧ k ≤ 256 ∧ iv = .int .i64 k ∧ ∀ j, 1 ≤ j → j < k → rmul a j ≠ 1) (fun iv => 256 - (intOf iv).toNat)
  case atStart => exact ⟨1, Nat.le_refl _, by decide, rfl, fun j h1 h2 => by omega⟩
  case round =>
    obtain ⟨k, h1, hk, rfl, hno⟩ := hrel
    by_cases hlt : k < 256
    · have cm := Lib.hid (rmul_any a k w ha hlt)
      rw [← rmul_eq ha hlt] at cm
      have g1 : IntKind.u8.wrap (k : Int) = (k : Int) := by rw [IntKind.wrap_u8]; omega
      by_cases hm : rmul a k = 1
      · have e : G = k := by
          rw [hG.out]
          by_cases h0 : a = 0
          · subst h0
            rw [rmul_zero hlt] at hm
            omega
          · exact ((inv_iff ha h0 hlt).1 hm).symm
        rw [hm] at cm
        simp only [show ((1 : Nat) : Int) = 1 from rfl] at cm
        replace hno := Lib.hid hno
        replace hm := Lib.hid hm
        subst e
        go_wp2_with fail
        refine cm.out.mono ?_
        rintro e w2 ⟨rfl, rfl⟩
        go_wp2_with fail
        go_ret
        exact ⟨rfl, rfl⟩
      · have hno' : ∀ j, 1 ≤ j → j < k + 1 → rmul a j ≠ 1 := fun j j1 j2 => by
          by_cases e : j = k
          · subst e; exact hm
          · exact hno j j1 (by omega)
        have nb : ¬ ((rmul a k : Int) = 1) := by omega
        generalize rmul a k = y at *
        replace hno := Lib.hid hno
        replace hno' := Lib.hid hno'
        replace hm := Lib.hid hm
        go_wp2_with fail
        refine cm.out.mono ?_
        rintro e w2 ⟨rfl, rfl⟩
        go_wp2_with fail
        go_round
        case rel => exact ⟨k + 1, by omega, by omega, by go_num, hno'.out⟩
        case measure => simp [intOf]; omega
    · obtain rfl : k = 256 := by omega
      have e : G = 0 := by
        rw [hG.out]
        by_cases h0 : a = 0
        · rw [h0]; exact inv_zero
        · have hp := inv_pos ha h0
          have hl := ginv_lt ha
          exact absurd ((inv_iff ha h0 hl).2 rfl) (hno _ (by omega) hl)
      subst e
      simp only [show ((256 : Nat) : Int) = 256 from rfl]
      replace hno := Lib.hid hno
      go_wp2_with fail
      go_ret
      exact ⟨rfl, rfl⟩

/-- The boxes of all bytes. -/
def boxesL : List Nat := bytesOf gbox 256
set_option maxHeartbeats 1000000 in
set_option maxRecDepth 100000 in
theorem runbox_any (a : Nat) (w : World) (v : Value) (hv : TextAt w v boxesL) (ha : a < 256) :
    Calls Try.prog 57 #[v, .int .u8 (a : Int)] w fun e w' => e = .returned (.int .u8 (gunb a : Int)) ∧ w = w' := by
  obtain ⟨ao, cap, rfl, _, _, hby⟩ := hv.ex
  have lb : boxesL.length = 256 := length_bytesOf _ _
  rw [lb] at hby ⊢
  obtain ⟨_, ob, oo, rfl, _⟩ := hby 0 (by decide)
  have hc : ∀ i, i < 256 → w.cell? ⟨ob, oo + i, none⟩ = some (.int .u8 (gbox i : Int)) := fun i hi => by
    obtain ⟨_, ob', oo', e, h1⟩ := hby i hi
    cases e
    rw [show byt boxesL i = gbox i from byt_bytesOf _ hi] at h1
    exact h1
  obtain ⟨U, hU⟩ : ∃ U, U = gunb a := ⟨_, rfl⟩
  have hU2 := (unb_lt_box a ha)
  rw [← hU] at hU2 ⊢
  replace hv := Lib.hid hv
  replace hby := Lib.hid hby
  replace hc := Lib.hid hc
  replace lb := Lib.hid lb
  replace hU := Lib.hid hU
  replace hU2 := Lib.hid hU2
  go_enter Try.func57, Try.ntmps57
  go_wp2_with fail
  go_loop [5] (fun iv => ∃ k : Nat, k ≤ 256 ∧ iv = .int .i64 k ∧ ∀ j, j < k → gbox j ≠ a) (fun iv => 256 - (intOf iv).toNat)
  case atStart => exact ⟨0, by decide, rfl, fun j h2 => by omega⟩
  case round =>
    obtain ⟨k, hk, rfl, hno⟩ := hrel
    by_cases hlt : k < 256
    · have ck := hc.out k hlt
      have g1 : IntKind.u8.wrap (k : Int) = (k : Int) := by rw [IntKind.wrap_u8]; omega
      by_cases hm : gbox k = a
      · have e : U = k := by rw [hU.out]; exact ((unb_iff ha hlt).1 hm).symm
        rw [hm] at ck
        subst e
        replace hno := Lib.hid hno
        replace hm := Lib.hid hm
        go_wp2_with fail
        go_ret
        exact ⟨rfl, rfl⟩
      · have hno' : ∀ j, j < k + 1 → gbox j ≠ a := fun j j2 => by
          by_cases e : j = k
          · subst e; exact hm
          · exact hno j (by omega)
        have nb : ¬ ((gbox k : Int) = (a : Int)) := by omega
        generalize gbox k = y at *
        replace hno := Lib.hid hno
        replace hno' := Lib.hid hno'
        replace hm := Lib.hid hm
        go_wp2_with fail
        go_round
        case rel => exact ⟨k + 1, by omega, by go_num, hno'.out⟩
        case measure => simp [intOf]; omega
    · obtain rfl : k = 256 := by omega
      exact absurd hU2.out.2 (hno U hU2.out.1)
end Go.Proofs.Ytecmagenlbnchaa
namespace Go.Proofs.Ytecmagenlbnchaa
set_option maxRecDepth 100000
open Go.RowKit

theorem infoInt : (Try.prog.info? 3).map (fun i => (i.zero, i.size, i.bytes)) = some (some (.int .i64 0), 1, 8) := by kernel_rfl
/-- Numbers as values. -/
def intV (D : Nat → Nat) (k : Nat) : List Value := (List.range k).map fun i => .int .i64 (D i : Int)
theorem intV_succ (D : Nat → Nat) (k : Nat) : intV D (k + 1) = intV D k ++ [.int .i64 (D k : Int)] := by
  unfold intV; rw [List.range_succ, List.map_append]; rfl
theorem intV_len (D : Nat → Nat) (k : Nat) : (intV D k).length = k := by simp [intV]
theorem intV_get (D : Nat → Nat) {k i : Nat} (h : i < k) : (intV D k)[i]? = some (.int .i64 (D i : Int)) := by simp [intV, h]
theorem dig_lt (a i : Nat) : dig a i < 2 := Nat.mod_lt _ (by decide)

set_option maxHeartbeats 1000000 in
set_option maxRecDepth 100000 in
theorem rdigits_any (a : Nat) (w : World) (ha : a < 256) :
    Calls Try.prog 95 #[.int .u8 (a : Int)] w fun e w' => ∃ v', e = .returned v' ∧ Own w' w.heap.size 3 v' (intV (dig a) 8) ∧ Below w.heap.size w w' := by
  go_enter Try.func95, Try.ntmps95
  go_wp2_with fail
  go_loopw [0, 3, 4] (fun x o i wr => ∃ k : Nat, k ≤ 8 ∧ x = .int .u8 ((a / 2 ^ k : Nat) : Int) ∧ i = .int .i64 k ∧ Own wr w.heap.size 3 o (intV (dig a) k) ∧ Below w.heap.size w wr) (fun _ _ i _ => 8 - (intOf i).toNat)
  case atStart => exact ⟨0, Nat.zero_le _, by simp, rfl, Own.nil _ _ _, Below.refl _ _⟩
  case round =>
    obtain ⟨k, hk, rfl, rfl, hO, hB⟩ := hrel
    by_cases hlt : k < 8
    · have ex : a / 2 ^ (k + 1) = a / 2 ^ k / 2 := by rw [Nat.pow_succ, Nat.div_div_eq_div_mul]
      have sn := intV_succ (dig a) k
      have hl := intV_len (dig a) k
      have ed : a / 2 ^ k % 2 = dig a k := rfl
      have lx : a / 2 ^ k < 256 := Nat.lt_of_le_of_lt (Nat.div_le_self _ _) ha
      have ld := dig_lt a k
      have hs := hB.size
      obtain ⟨x2, e2⟩ : ∃ x2, x2 = a / 2 ^ (k + 1) := ⟨_, rfl⟩
      rw [← e2] at ex
      generalize a / 2 ^ k = x at *
      generalize dig a k = d at *
      generalize intV (dig a) k = X at *
      have f1 : ((x : Int)).tmod 2 = (d : Int) := by rw [Int.tmod_eq_emod_of_nonneg (by omega)]; omega
      have f2 : ((x : Int)) / 2 = (x2 : Int) := by omega
      have f3 : IntKind.u8.wrap (x2 : Int) = (x2 : Int) := by rw [IntKind.wrap_u8]; omega
      have f4 : IntKind.u8.wrap (d : Int) = (d : Int) := by rw [IntKind.wrap_u8]; omega
      have Ba : Below w.heap.size w (wr.alloc (.cells #[.int .i64 (d : Int)] 3)) := hB.alloc hs _
      have O1 := hO.alloc (.cells #[.int .i64 (d : Int)] 3)
      have nw : ∀ (j : Nat) (u : Value), [Value.int .i64 (d : Int)][j]? = some u → ∃ ad, (some (⟨wr.heap.size, 0, none⟩ : Addr)) = some ad ∧ (wr.alloc (.cells #[.int .i64 (d : Int)] 3)).cell? (ad.add j) = some u := fun j u hj => ⟨_, rfl, cell_one_new wr (.int .i64 (d : Int)) 3 j u hj⟩
      replace hO := Lib.hid hO
      replace hB := Lib.hid hB
      replace ex := Lib.hid ex
      replace sn := Lib.hid sn
      replace hl := Lib.hid hl
      replace ed := Lib.hid ed
      replace Ba := Lib.hid Ba
      replace O1 := Lib.hid O1
      replace nw := Lib.hid nw
      replace e2 := Lib.hid e2
      go_wp2_with (at_builtin; refine wpList_append_x rfl (.tmp 9) (.tmp 13) 133 rfl 3 Try.underlying133 (.int .i64 0) 8 infoInt rfl (by decide) w.heap.size w u3 X rfl O1.out Ba.out Ba.out.size (some ⟨wr.heap.size, 0, none⟩) 1 1 [.int .i64 (d : Int)] rfl rfl (fun e => by simp at e) nw.out (by intro u hu; simp at hu; subst hu; rfl) (by have := hl.out; omega) ?_; intro v7 w7 o7 B7 _ _)
      go_roundw
      case rel => exact ⟨k + 1, by omega, by rw [← e2.out], by go_num, by rw [sn.out]; exact o7.out, B7.out⟩
      case measure => simp [intOf]; omega
    · obtain rfl : k = 8 := by omega
      replace hO := Lib.hid hO
      replace hB := Lib.hid hB
      go_wp2_with fail
      go_ret
      exact ⟨_, rfl, hO.out, hB.out⟩

theorem byteD_succ (D : Nat → Nat) (k : Nat) : byteD D (k + 1) = 2 * byteD D k + D (7 - k) := rfl
theorem byteD_lt {D : Nat → Nat} (h : ∀ i, D i < 2) : ∀ k, byteD D k < 2 ^ k
  | 0 => show 0 < 1 by decide
  | k + 1 => by have := byteD_lt h k; have := h (7 - k); rw [byteD_succ, Nat.pow_succ]; omega
set_option maxHeartbeats 1000000 in
set_option maxRecDepth 100000 in
theorem rbyte_any (D : Nat → Nat) (hD : ∀ i, D i < 2) (w : World) (v : Value) (base : Nat) (hO : Own w base 3 v (intV D 8)) :
    Calls Try.prog 97 #[v] w fun e w' => e = .returned (.int .u8 (byteD D 8 : Int)) ∧ w = w' := by
  obtain ⟨ao, cap, rfl, _, _, _, _, hc⟩ := hO.form
  rw [intV_len]
  obtain ⟨g, rfl, _, _⟩ := hc 0 _ (intV_get D (show 0 < 8 by decide))
  have cell : ∀ i, i < 8 → w.cell? ⟨g, i, none⟩ = some (.int .i64 (D i : Int)) := fun i hi => by
    obtain ⟨g', e, h1, _⟩ := hc i _ (intV_get D hi)
    cases e
    exact h1
  clear hc
  replace hO := Lib.hid hO
  replace hD := Lib.hid hD
  replace cell := Lib.hid cell
  go_enter Try.func97, Try.ntmps97
  go_wp2_with fail
  go_loop [3, 4] (fun n i => ∃ k : Nat, k ≤ 8 ∧ n = .int .u8 (byteD D k : Int) ∧ i = .int .i64 (7 - (k : Int))) (fun _ i => (intOf i + 1).toNat)
  case atStart => exact ⟨0, Nat.zero_le _, rfl, rfl⟩
  case round =>
    obtain ⟨k, hk, rfl, rfl⟩ := hrel
    by_cases hlt : k < 8
    · have ck := cell.out (7 - k) (by omega)
      have lb := byteD_lt hD.out k
      have ld := hD.out (7 - k)
      have lb2 : byteD D k < 128 := Nat.lt_of_lt_of_le lb (show 2 ^ k ≤ 2 ^ 7 from Nat.pow_le_pow_right (by decide) (by omega))
      have sn := byteD_succ D k
      obtain ⟨j, ej⟩ : ∃ j, j = 7 - k := ⟨_, rfl⟩
      rw [← ej] at ck ld sn
      have ei : (7 : Int) - (k : Int) = (j : Int) := by omega
      have ej1 : (j : Int) - 1 = 7 - ((k + 1 : Nat) : Int) := by omega
      rw [ei]
      generalize byteD D k = b at *
      generalize D j = d at *
      have f1 : IntKind.u8.wrap (2 * (b : Int)) = ((2 * b : Nat) : Int) := by rw [IntKind.wrap_u8]; omega
      have f2 : IntKind.u8.wrap (d : Int) = (d : Int) := by rw [IntKind.wrap_u8]; omega
      have f3 : IntKind.u8.wrap (((2 * b : Nat) : Int) + (d : Int)) = ((2 * b + d : Nat) : Int) := by rw [IntKind.wrap_u8]; omega
      have f4 : IntKind.i64.wrap ((j : Int) - 1) = (j : Int) - 1 := IntWalk.i64_in _ (by omega)
      have j8 : (j : Int) < 8 := by omega
      have j0 : decide ((j : Int) ≥ 0) = true := decide_eq_true (by omega)
      replace lb := Lib.hid lb
      replace sn := Lib.hid sn
      replace ej := Lib.hid ej
      replace ei := Lib.hid ei
      replace lb2 := Lib.hid lb2
      go_wp2_with fail
      go_round
      case rel => exact ⟨k + 1, by omega, by rw [sn.out]; have := lb2.out; go_num, by have := ei.out; congr 1 <;> omega⟩
      case measure =>
        show (7 - ((k : Int) + 1) + 1).toNat < ((j : Int) + 1).toNat
        have := ei.out
        omega
    · obtain rfl : k = 8 := by omega
      have d1 : decide ((7 : Int) - ((8 : Nat) : Int) ≥ 0) = false := rfl
      go_wp2_with fail
      go_ret
      exact ⟨rfl, rfl⟩

theorem boxD_lt (v i : Nat) : boxD v i < 2 := Nat.mod_lt _ (by decide)
set_option maxHeartbeats 4000000 in
set_option maxRecDepth 100000 in
theorem rbox_any (a : Nat) (w : World) (ha : a < 256) :
    Calls Try.prog 82 #[.int .u8 (a : Int)] w fun e w' => e = .returned (.int .u8 (gbox a : Int)) ∧ Below w.heap.size w w' := by
  have lG := ginv_lt ha
  have ci := Lib.hid (rinv_any a w ha)
  have eG := rbox_gbox ha
  obtain ⟨G, hG⟩ : ∃ G, G = ginv a := ⟨_, rfl⟩
  obtain ⟨R, hR⟩ : ∃ R, R = gbox a := ⟨_, rfl⟩
  rw [← hG] at ci lG eG
  rw [← hR] at eG ⊢
  replace hG := Lib.hid hG
  replace hR := Lib.hid hR
  replace eG := Lib.hid eG
  go_enter Try.func82, Try.ntmps82
  go_wp2_with fail
  refine ci.out.mono ?_
  rintro e w2 ⟨rfl, rfl⟩
  go_wp2_with fail
  refine (rdigits_any G w lG).mono ?_
  rintro e w1 ⟨v1, rfl, o1, B1⟩
  replace o1 := Lib.hid o1
  replace B1 := Lib.hid B1
  go_wp2_with fail
  refine (rdigits_any 99 w1 (by decide)).mono ?_
  rintro e w2 ⟨v2, rfl, o2, B2⟩
  have O1 := o1.out.below B2
  have low := B1.out.trans (B2.mono B1.out.size)
  have ws := low.size
  obtain ⟨a1, c1, rfl, _, _, _, _, h1⟩ := O1.form
  obtain ⟨a2, c2, rfl, _, _, _, _, h2⟩ := o2.form
  rw [intV_len, intV_len]
  obtain ⟨g1, rfl, _, _⟩ := h1 0 _ (intV_get _ (show 0 < 8 by decide))
  obtain ⟨g2, rfl, _, _⟩ := h2 0 _ (intV_get _ (show 0 < 8 by decide))
  have k1 : ∀ i, i < 8 → w2.cell? ⟨g1, i, none⟩ = some (.int .i64 (dig G i : Int)) := fun i hi => by
    obtain ⟨g', e, q, _⟩ := h1 i _ (intV_get _ hi)
    cases e
    exact q
  have k2 : ∀ i, i < 8 → w2.cell? ⟨g2, i, none⟩ = some (.int .i64 (dig 99 i : Int)) := fun i hi => by
    obtain ⟨g', e, q, _⟩ := h2 i _ (intV_get _ hi)
    cases e
    exact q
  clear h1 h2 o1
  replace B1 := Lib.hid B1
  replace B2 := Lib.hid B2
  replace O1 := Lib.hid O1
  replace o2 := Lib.hid o2
  replace low := Lib.hid low
  replace k1 := Lib.hid k1
  replace k2 := Lib.hid k2
  go_wp2_with fail
  go_loopw [5, 6] (fun o i wr => ∃ k : Nat, k ≤ 8 ∧ i = .int .i64 k ∧ Own wr w2.heap.size 3 o (intV (boxD G) k) ∧ Below w2.heap.size w2 wr) (fun _ i _ => 8 - (intOf i).toNat)
  case atStart => exact ⟨0, Nat.zero_le _, rfl, Own.nil _ _ _, Below.refl _ _⟩
  case round =>
    obtain ⟨k, hk, rfl, hO, hB⟩ := hrel
    by_cases hlt : k < 8
    · have hs := hB.size
      have cell1 : ∀ i, i < 8 → wr.drew.cell? ⟨g1, i, none⟩ = some (.int .i64 (dig G i : Int)) := fun i hi => (hB.cell (block_lt_of_cell (k1.out i hi))).trans (k1.out i hi)
      have cell2 : ∀ i, i < 8 → wr.drew.cell? ⟨g2, i, none⟩ = some (.int .i64 (dig 99 i : Int)) := fun i hi => (hB.cell (block_lt_of_cell (k2.out i hi))).trans (k2.out i hi)
      obtain ⟨p7, e7⟩ : ∃ p, p = (k + 7) % 8 := ⟨_, rfl⟩
      obtain ⟨p6, e6⟩ : ∃ p, p = (k + 6) % 8 := ⟨_, rfl⟩
      obtain ⟨p5, e5⟩ : ∃ p, p = (k + 5) % 8 := ⟨_, rfl⟩
      obtain ⟨p4, e4⟩ : ∃ p, p = (k + 4) % 8 := ⟨_, rfl⟩
      have q0 := cell1 k hlt
      have q7 := cell1 p7 (by omega)
      have q6 := cell1 p6 (by omega)
      have q5 := cell1 p5 (by omega)
      have q4 := cell1 p4 (by omega)
      have qc := cell2 k hlt
      have b0 := dig_lt G k
      have b7 := dig_lt G p7
      have b6 := dig_lt G p6
      have b5 := dig_lt G p5
      have b4 := dig_lt G p4
      have bc := dig_lt 99 k
      have eD : boxD G k = (dig G k + dig G p7 + dig G p6 + dig G p5 + dig G p4 + dig 99 k) % 2 := by rw [e7, e6, e5, e4]; rfl
      have sn := intV_succ (boxD G) k
      have hl := intV_len (boxD G) k
      have ld := boxD_lt G k
      generalize boxD G k = d at *
      generalize intV (boxD G) k = X at *
      generalize dig G k = d0 at *
      generalize dig G p7 = d7 at *
      generalize dig G p6 = d6 at *
      generalize dig G p5 = d5 at *
      generalize dig G p4 = d4 at *
      generalize dig 99 k = dc at *
      have i0 : (k : Int) < 8 := by omega
      have i7 : (p7 : Int) < 8 := by omega
      have i6 : (p6 : Int) < 8 := by omega
      have i5 : (p5 : Int) < 8 := by omega
      have i4 : (p4 : Int) < 8 := by omega
      have m7 : IntKind.i64.wrap ((k : Int) + 7) = (k : Int) + 7 := IntWalk.i64_in _ (by omega)
      have m6 : IntKind.i64.wrap ((k : Int) + 6) = (k : Int) + 6 := IntWalk.i64_in _ (by omega)
      have m5 : IntKind.i64.wrap ((k : Int) + 5) = (k : Int) + 5 := IntWalk.i64_in _ (by omega)
      have m4 : IntKind.i64.wrap ((k : Int) + 4) = (k : Int) + 4 := IntWalk.i64_in _ (by omega)
      have t7 : ((k : Int) + 7).tmod 8 = (p7 : Int) := by rw [Int.tmod_eq_emod_of_nonneg (by omega)]; omega
      have t6 : ((k : Int) + 6).tmod 8 = (p6 : Int) := by rw [Int.tmod_eq_emod_of_nonneg (by omega)]; omega
      have t5 : ((k : Int) + 5).tmod 8 = (p5 : Int) := by rw [Int.tmod_eq_emod_of_nonneg (by omega)]; omega
      have t4 : ((k : Int) + 4).tmod 8 = (p4 : Int) := by rw [Int.tmod_eq_emod_of_nonneg (by omega)]; omega
      obtain ⟨s1, g1'⟩ : ∃ s, s = d0 + d7 := ⟨_, rfl⟩
      obtain ⟨s2, g2'⟩ : ∃ s, s = s1 + d6 := ⟨_, rfl⟩
      obtain ⟨s3, g3'⟩ : ∃ s, s = s2 + d5 := ⟨_, rfl⟩
      obtain ⟨s4, g4'⟩ : ∃ s, s = s3 + d4 := ⟨_, rfl⟩
      obtain ⟨s5, g5'⟩ : ∃ s, s = s4 + dc := ⟨_, rfl⟩
      have u1 : IntKind.i64.wrap ((d0 : Int) + (d7 : Int)) = (s1 : Int) := by rw [IntWalk.i64_in _ (by omega)]; omega
      have u2 : IntKind.i64.wrap ((s1 : Int) + (d6 : Int)) = (s2 : Int) := by rw [IntWalk.i64_in _ (by omega)]; omega
      have u3' : IntKind.i64.wrap ((s2 : Int) + (d5 : Int)) = (s3 : Int) := by rw [IntWalk.i64_in _ (by omega)]; omega
      have u4' : IntKind.i64.wrap ((s3 : Int) + (d4 : Int)) = (s4 : Int) := by rw [IntWalk.i64_in _ (by omega)]; omega
      have u5' : IntKind.i64.wrap ((s4 : Int) + (dc : Int)) = (s5 : Int) := by rw [IntWalk.i64_in _ (by omega)]; omega
      have tm : (s5 : Int).tmod 2 = (d : Int) := by rw [Int.tmod_eq_emod_of_nonneg (by omega)]; omega
      have lowr := low.out.trans (hB.mono ws)
      have Bb : Below w2.heap.size w2 (wr.drew.alloc (.cells #[.int .i64 (d : Int)] 3)) := hB.drew.alloc hs _
      have O3 : Own (wr.drew.alloc (.cells #[.int .i64 (d : Int)] 3)) w2.heap.size 3 _ _ := hO.drew.alloc _
      have nw : ∀ (j : Nat) (u : Value), [Value.int .i64 (d : Int)][j]? = some u → ∃ ad, (some (⟨wr.heap.size, 0, none⟩ : Addr)) = some ad ∧ (wr.drew.alloc (.cells #[.int .i64 (d : Int)] 3)).cell? (ad.add j) = some u := fun j u hj => ⟨_, rfl, cell_one_new wr.drew (.int .i64 (d : Int)) 3 j u hj⟩
      clear cell1 cell2
      replace hO := Lib.hid hO
      replace hB := Lib.hid hB
      replace sn := Lib.hid sn
      replace hl := Lib.hid hl
      replace eD := Lib.hid eD
      replace b0 := Lib.hid b0
      replace b7 := Lib.hid b7
      replace b6 := Lib.hid b6
      replace b5 := Lib.hid b5
      replace b4 := Lib.hid b4
      replace bc := Lib.hid bc
      replace ld := Lib.hid ld
      replace e7 := Lib.hid e7
      replace e6 := Lib.hid e6
      replace e5 := Lib.hid e5
      replace e4 := Lib.hid e4
      replace g1' := Lib.hid g1'
      replace g2' := Lib.hid g2'
      replace g3' := Lib.hid g3'
      replace g4' := Lib.hid g4'
      replace g5' := Lib.hid g5'
      replace lowr := Lib.hid lowr
      replace Bb := Lib.hid Bb
      replace O3 := Lib.hid O3
      replace nw := Lib.hid nw
      go_wp2_with fail
      refine wp_region_held_drew (S := (fun w' => w'.cell? ⟨g1, k, none⟩ = some (.int .i64 (d0 : Int)) ∧ w'.cell? ⟨g1, p7, none⟩ = some (.int .i64 (d7 : Int)) ∧ w'.cell? ⟨g1, p6, none⟩ = some (.int .i64 (d6 : Int)) ∧ w'.cell? ⟨g1, p5, none⟩ = some (.int .i64 (d5 : Int)) ∧ w'.cell? ⟨g1, p4, none⟩ = some (.int .i64 (d4 : Int)) ∧ w'.cell? ⟨g2, k, none⟩ = some (.int .i64 (dc : Int)))) (by kernel_rfl) (⟨q0, q7, q6, q5, q4, qc⟩) (fun hHeld => ?_)
      refine held_take (i := 0) (v := ?_) rfl (by kernel_rfl) (by kernel_rfl) (by kernel_rfl) (fun _ _ _ h => h) (Or.inl ⟨by rfl, ?_⟩) (by assumption) ?_
      rotate_left
      · intro w hSw; (try dsimp only at hSw); go_simp; try with_reducible rfl
      try simp only [Act.put, List.setIfInBounds_toArray, List.set_cons_zero, List.set_cons_succ]
      refine held_take (i := 1) (v := ?_) rfl (by kernel_rfl) (by kernel_rfl) (by kernel_rfl) (fun _ _ _ h => h) (Or.inl ⟨by rfl, ?_⟩) (by assumption) ?_
      rotate_left
      · intro w hSw; (try dsimp only at hSw); go_simp; try with_reducible rfl
      try simp only [Act.put, List.setIfInBounds_toArray, List.set_cons_zero, List.set_cons_succ]
      refine held_take (i := 2) (v := ?_) rfl (by kernel_rfl) (by kernel_rfl) (by kernel_rfl) (fun _ _ _ h => h) (Or.inl ⟨by rfl, ?_⟩) (by assumption) ?_
      rotate_left
      · intro w hSw; (try dsimp only at hSw); go_simp; try with_reducible rfl
      try simp only [Act.put, List.setIfInBounds_toArray, List.set_cons_zero, List.set_cons_succ]
      refine held_take (i := 3) (v := ?_) rfl (by kernel_rfl) (by kernel_rfl) (by kernel_rfl) (fun _ _ _ h => h) (Or.inl ⟨by rfl, ?_⟩) (by assumption) ?_
      rotate_left
      · intro w hSw; (try dsimp only at hSw); go_simp; try with_reducible rfl
      try simp only [Act.put, List.setIfInBounds_toArray, List.set_cons_zero, List.set_cons_succ]
      refine held_take (i := 4) (v := ?_) rfl (by kernel_rfl) (by kernel_rfl) (by kernel_rfl) (fun _ _ _ h => h) (Or.inl ⟨by rfl, ?_⟩) (by assumption) ?_
      rotate_left
      · intro w hSw; (try dsimp only at hSw); go_simp; try with_reducible rfl
      try simp only [Act.put, List.setIfInBounds_toArray, List.set_cons_zero, List.set_cons_succ]
      refine held_take (i := 5) (v := ?_) rfl (by kernel_rfl) (by kernel_rfl) (by kernel_rfl) (fun _ _ _ h => h) (Or.inl ⟨by rfl, ?_⟩) (by assumption) ?_
      rotate_left
      · intro w hSw; (try dsimp only at hSw); go_simp; try with_reducible rfl
      try simp only [Act.put, List.setIfInBounds_toArray, List.set_cons_zero, List.set_cons_succ]
      refine held_take (i := 6) (v := ?_) rfl (by kernel_rfl) (by kernel_rfl) (by kernel_rfl) (fun _ _ _ h => h) (Or.inl ⟨by rfl, ?_⟩) (by assumption) ?_
      rotate_left
      · intro w hSw; (try dsimp only at hSw); go_simp; try with_reducible rfl
      try simp only [Act.put, List.setIfInBounds_toArray, List.set_cons_zero, List.set_cons_succ]
      refine held_take (i := 7) (v := ?_) rfl (by kernel_rfl) (by kernel_rfl) (by kernel_rfl) (fun _ _ _ h => h) (Or.inl ⟨by rfl, ?_⟩) (by assumption) ?_
      rotate_left
      · intro w hSw; (try dsimp only at hSw); go_simp; try with_reducible rfl
      try simp only [Act.put, List.setIfInBounds_toArray, List.set_cons_zero, List.set_cons_succ]
      refine held_take (i := 8) (v := ?_) rfl (by kernel_rfl) (by kernel_rfl) (by kernel_rfl) (fun _ _ _ h => h) (Or.inl ⟨by rfl, ?_⟩) (by assumption) ?_
      rotate_left
      · intro w hSw; (try dsimp only at hSw); go_simp; try with_reducible rfl
      try simp only [Act.put, List.setIfInBounds_toArray, List.set_cons_zero, List.set_cons_succ]
      refine held_take (i := 9) (v := ?_) rfl (by kernel_rfl) (by kernel_rfl) (by kernel_rfl) (fun _ _ _ h => h) (Or.inl ⟨by rfl, ?_⟩) (by assumption) ?_
      rotate_left
      · intro w hSw; (try dsimp only at hSw); go_simp; try with_reducible rfl
      try simp only [Act.put, List.setIfInBounds_toArray, List.set_cons_zero, List.set_cons_succ]
      refine held_take (i := 10) (v := ?_) rfl (by kernel_rfl) (by kernel_rfl) (by kernel_rfl) (fun _ _ _ h => h) (Or.inl ⟨by rfl, ?_⟩) (by assumption) ?_
      rotate_left
      · intro w hSw; (try dsimp only at hSw); go_simp; try with_reducible rfl
      try simp only [Act.put, List.setIfInBounds_toArray, List.set_cons_zero, List.set_cons_succ]
      refine held_take (i := 11) (v := ?_) rfl (by kernel_rfl) (by kernel_rfl) (by kernel_rfl) (fun _ _ _ h => h) (Or.inl ⟨by rfl, ?_⟩) (by assumption) ?_
      rotate_left
      · intro w hSw; (try dsimp only at hSw); go_simp; try with_reducible rfl
      try simp only [Act.put, List.setIfInBounds_toArray, List.set_cons_zero, List.set_cons_succ]
      refine held_take (i := 12) (v := ?_) rfl (by kernel_rfl) (by kernel_rfl) (by kernel_rfl) (fun _ _ _ h => h) (Or.inl ⟨by rfl, ?_⟩) (by assumption) ?_
      rotate_left
      · intro w hSw; (try dsimp only at hSw); go_simp; try with_reducible rfl
      try simp only [Act.put, List.setIfInBounds_toArray, List.set_cons_zero, List.set_cons_succ]
      refine held_take (i := 13) (v := ?_) rfl (by kernel_rfl) (by kernel_rfl) (by kernel_rfl) (fun _ _ _ h => h) (Or.inl ⟨by rfl, ?_⟩) (by assumption) ?_
      rotate_left
      · intro w hSw; (try dsimp only at hSw); go_simp; try with_reducible rfl
      try simp only [Act.put, List.setIfInBounds_toArray, List.set_cons_zero, List.set_cons_succ]
      refine held_take (i := 14) (v := ?_) rfl (by kernel_rfl) (by kernel_rfl) (by kernel_rfl) (fun _ _ _ h => h) (Or.inl ⟨by rfl, ?_⟩) (by assumption) ?_
      rotate_left
      · intro w hSw; (try dsimp only at hSw); go_simp; try with_reducible rfl
      try simp only [Act.put, List.setIfInBounds_toArray, List.set_cons_zero, List.set_cons_succ]
      refine held_take (i := 15) (v := ?_) rfl (by kernel_rfl) (by kernel_rfl) (by kernel_rfl) (fun _ _ _ h => h) (Or.inl ⟨by rfl, ?_⟩) (by assumption) ?_
      rotate_left
      · intro w hSw; (try dsimp only at hSw); go_simp; try with_reducible rfl
      try simp only [Act.put, List.setIfInBounds_toArray, List.set_cons_zero, List.set_cons_succ]
      refine held_take (i := 16) (v := ?_) rfl (by kernel_rfl) (by kernel_rfl) (by kernel_rfl) (fun _ _ _ h => h) (Or.inl ⟨by rfl, ?_⟩) (by assumption) ?_
      rotate_left
      · intro w hSw; (try dsimp only at hSw); go_simp; try with_reducible rfl
      try simp only [Act.put, List.setIfInBounds_toArray, List.set_cons_zero, List.set_cons_succ]
      refine held_take (i := 17) (v := ?_) rfl (by kernel_rfl) (by kernel_rfl) (by kernel_rfl) (fun _ _ _ h => h) (Or.inl ⟨by rfl, ?_⟩) (by assumption) ?_
      rotate_left
      · intro w hSw; (try dsimp only at hSw); go_simp; try with_reducible rfl
      try simp only [Act.put, List.setIfInBounds_toArray, List.set_cons_zero, List.set_cons_succ]
      refine held_take (i := 18) (v := ?_) rfl (by kernel_rfl) (by kernel_rfl) (by kernel_rfl) (fun _ _ _ h => h) (Or.inl ⟨by rfl, ?_⟩) (by assumption) ?_
      rotate_left
      · intro w hSw; (try dsimp only at hSw); go_simp; try with_reducible rfl
      try simp only [Act.put, List.setIfInBounds_toArray, List.set_cons_zero, List.set_cons_succ]
      refine held_take (i := 19) (v := ?_) rfl (by kernel_rfl) (by kernel_rfl) (by kernel_rfl) (fun _ _ _ h => h) (Or.inl ⟨by rfl, ?_⟩) (by assumption) ?_
      rotate_left
      · intro w hSw; (try dsimp only at hSw); go_simp; try with_reducible rfl
      try simp only [Act.put, List.setIfInBounds_toArray, List.set_cons_zero, List.set_cons_succ]
      refine held_take (i := 20) (v := ?_) rfl (by kernel_rfl) (by kernel_rfl) (by kernel_rfl) (fun _ _ _ h => h) (Or.inl ⟨by rfl, ?_⟩) (by assumption) ?_
      rotate_left
      · intro w hSw; (try dsimp only at hSw); go_simp; try with_reducible rfl
      try simp only [Act.put, List.setIfInBounds_toArray, List.set_cons_zero, List.set_cons_succ]
      refine held_take (i := 21) (v := ?_) rfl (by kernel_rfl) (by kernel_rfl) (by kernel_rfl) (fun _ _ _ h => h) (Or.inl ⟨by rfl, ?_⟩) (by assumption) ?_
      rotate_left
      · intro w hSw; (try dsimp only at hSw); go_simp; try with_reducible rfl
      try simp only [Act.put, List.setIfInBounds_toArray, List.set_cons_zero, List.set_cons_succ]
      refine held_take (i := 22) (v := ?_) rfl (by kernel_rfl) (by kernel_rfl) (by kernel_rfl) (fun _ _ _ h => h) (Or.inl ⟨by rfl, ?_⟩) (by assumption) ?_
      rotate_left
      · intro w hSw; (try dsimp only at hSw); go_simp; try with_reducible rfl
      try simp only [Act.put, List.setIfInBounds_toArray, List.set_cons_zero, List.set_cons_succ]
      refine held_take (i := 23) (v := ?_) rfl (by kernel_rfl) (by kernel_rfl) (by kernel_rfl) (fun _ _ _ h => h) (Or.inl ⟨by rfl, ?_⟩) (by assumption) ?_
      rotate_left
      · intro w hSw; (try dsimp only at hSw); go_simp; try with_reducible rfl
      try simp only [Act.put, List.setIfInBounds_toArray, List.set_cons_zero, List.set_cons_succ]
      refine held_take (i := 24) (v := ?_) rfl (by kernel_rfl) (by kernel_rfl) (by kernel_rfl) (fun _ _ _ h => h) (Or.inl ⟨by rfl, ?_⟩) (by assumption) ?_
      rotate_left
      · intro w hSw; (try dsimp only at hSw); go_simp; try with_reducible rfl
      try simp only [Act.put, List.setIfInBounds_toArray, List.set_cons_zero, List.set_cons_succ]
      refine held_take (i := 25) (v := ?_) rfl (by kernel_rfl) (by kernel_rfl) (by kernel_rfl) (fun _ _ _ h => h) (Or.inl ⟨by rfl, ?_⟩) (by assumption) ?_
      rotate_left
      · intro w hSw; (try dsimp only at hSw); go_simp; try with_reducible rfl
      try simp only [Act.put, List.setIfInBounds_toArray, List.set_cons_zero, List.set_cons_succ]
      refine held_take (i := 26) (v := ?_) rfl (by kernel_rfl) (by kernel_rfl) (by kernel_rfl) (fun _ _ _ h => h) (Or.inl ⟨by rfl, ?_⟩) (by assumption) ?_
      rotate_left
      · intro w hSw; (try dsimp only at hSw); go_simp; try with_reducible rfl
      try simp only [Act.put, List.setIfInBounds_toArray, List.set_cons_zero, List.set_cons_succ]
      refine held_take (i := 27) (v := ?_) rfl (by kernel_rfl) (by kernel_rfl) (by kernel_rfl) (fun _ _ _ h => h) (Or.inl ⟨by rfl, ?_⟩) (by assumption) ?_
      rotate_left
      · intro w hSw; (try dsimp only at hSw); go_simp; try with_reducible rfl
      try simp only [Act.put, List.setIfInBounds_toArray, List.set_cons_zero, List.set_cons_succ]
      refine held_take (i := 28) (v := ?_) rfl (by kernel_rfl) (by kernel_rfl) (by kernel_rfl) (fun _ _ _ h => h) (Or.inl ⟨by rfl, ?_⟩) (by assumption) ?_
      rotate_left
      · intro w hSw; (try dsimp only at hSw); go_simp; try with_reducible rfl
      try simp only [Act.put, List.setIfInBounds_toArray, List.set_cons_zero, List.set_cons_succ]
      refine held_take (i := 29) (v := ?_) rfl (by kernel_rfl) (by kernel_rfl) (by kernel_rfl) (fun _ _ _ h => h) (Or.inl ⟨by rfl, ?_⟩) (by assumption) ?_
      rotate_left
      · intro w hSw; (try dsimp only at hSw); go_simp; try with_reducible rfl
      try simp only [Act.put, List.setIfInBounds_toArray, List.set_cons_zero, List.set_cons_succ]
      refine held_take (i := 30) (v := ?_) rfl (by kernel_rfl) (by kernel_rfl) (by kernel_rfl) (fun _ _ _ h => h) (Or.inl ⟨by rfl, ?_⟩) (by assumption) ?_
      rotate_left
      · intro w hSw; (try dsimp only at hSw); go_simp; try with_reducible rfl
      try simp only [Act.put, List.setIfInBounds_toArray, List.set_cons_zero, List.set_cons_succ]
      refine held_take (i := 31) (v := ?_) rfl (by kernel_rfl) (by kernel_rfl) (by kernel_rfl) (fun _ _ _ h => h) (Or.inl ⟨by rfl, ?_⟩) (by assumption) ?_
      rotate_left
      · intro w hSw; (try dsimp only at hSw); go_simp; try with_reducible rfl
      try simp only [Act.put, List.setIfInBounds_toArray, List.set_cons_zero, List.set_cons_succ]
      refine held_take (i := 32) (v := ?_) rfl (by kernel_rfl) (by kernel_rfl) (by kernel_rfl) (fun _ _ _ h => h) (Or.inl ⟨by rfl, ?_⟩) (by assumption) ?_
      rotate_left
      · intro w hSw; (try dsimp only at hSw); go_simp; try with_reducible rfl
      try simp only [Act.put, List.setIfInBounds_toArray, List.set_cons_zero, List.set_cons_succ]
      refine held_take (i := 33) (v := ?_) rfl (by kernel_rfl) (by kernel_rfl) (by kernel_rfl) (fun _ _ _ h => h) (Or.inl ⟨by rfl, ?_⟩) (by assumption) ?_
      rotate_left
      · intro w hSw; (try dsimp only at hSw); go_simp; try with_reducible rfl
      try simp only [Act.put, List.setIfInBounds_toArray, List.set_cons_zero, List.set_cons_succ]
      refine held_take (i := 34) (v := ?_) rfl (by kernel_rfl) (by kernel_rfl) (by kernel_rfl) (fun _ _ _ h => h) (Or.inl ⟨by rfl, ?_⟩) (by assumption) ?_
      rotate_left
      · intro w hSw; (try dsimp only at hSw); go_simp; try with_reducible rfl
      try simp only [Act.put, List.setIfInBounds_toArray, List.set_cons_zero, List.set_cons_succ]
      refine held_take (i := 35) (v := ?_) rfl (by kernel_rfl) (by kernel_rfl) (by kernel_rfl) (fun _ _ _ h => h) (Or.inl ⟨by rfl, ?_⟩) (by assumption) ?_
      rotate_left
      · intro w hSw; (try dsimp only at hSw); go_simp; try with_reducible rfl
      try simp only [Act.put, List.setIfInBounds_toArray, List.set_cons_zero, List.set_cons_succ]
      refine held_take (i := 36) (v := ?_) rfl (by kernel_rfl) (by kernel_rfl) (by kernel_rfl) (fun _ _ _ h => h) (Or.inl ⟨by rfl, ?_⟩) (by assumption) ?_
      rotate_left
      · intro w hSw; (try dsimp only at hSw); go_simp; try with_reducible rfl
      try simp only [Act.put, List.setIfInBounds_toArray, List.set_cons_zero, List.set_cons_succ]
      refine held_take (i := 37) (v := ?_) rfl (by kernel_rfl) (by kernel_rfl) (by kernel_rfl) (fun _ _ _ h => h) (Or.inl ⟨by rfl, ?_⟩) (by assumption) ?_
      rotate_left
      · intro w hSw; (try dsimp only at hSw); go_simp; try with_reducible rfl
      try simp only [Act.put, List.setIfInBounds_toArray, List.set_cons_zero, List.set_cons_succ]
      refine wpAnyH_done (by kernel_rfl) ?_ _
      clear hHeld
      go_wp2_with (at_builtin; refine wpList_append_x rfl (.tmp 53) (.tmp 56) 133 rfl 3 Try.underlying133 (.int .i64 0) 8 infoInt rfl (by decide) w2.heap.size w2 u5 X rfl (O3.out) Bb.out Bb.out.size (some ⟨wr.heap.size, 0, none⟩) 1 1 [.int .i64 (d : Int)] rfl rfl (fun e => by simp at e) nw.out (by intro u hu; simp at hu; subst hu; rfl) (by have := hl.out; omega) ?_; intro v7 w7 o7 B7 _ _)
      go_roundw
      case rel => exact ⟨k + 1, by omega, by go_num, by rw [sn.out]; exact o7.out, B7.out⟩
      case measure => simp [intOf]; omega
    · obtain rfl : k = 8 := by omega
      have lowr := low.out.trans (hB.mono ws)
      have cb := rbyte_any (boxD G) (boxD_lt G) wr _ _ hO
      rw [eG.out] at cb
      replace hO := Lib.hid hO
      replace hB := Lib.hid hB
      replace lowr := Lib.hid lowr
      replace cb := Lib.hid cb
      go_wp2_with fail
      refine cb.out.mono ?_
      rintro e w3 ⟨rfl, rfl⟩
      go_wp2_with fail
      go_ret
      exact ⟨rfl, lowr.out⟩

set_option maxHeartbeats 1000000 in
set_option maxRecDepth 100000 in
theorem rboxes_any (w : World) :
    Calls Try.prog 56 #[] w fun e w' => ∃ v', e = .returned v' ∧ Own w' w.heap.size 5 v' (u8l (bytesOf gbox 256)) ∧ Below w.heap.size w w' := by
  go_enter Try.func56, Try.ntmps56
  go_wp2_with fail
  go_loopw [1, 2] (fun o i wr => ∃ k : Nat, k ≤ 256 ∧ i = .int .i64 k ∧ Own wr w.heap.size 5 o (u8l (bytesOf gbox k)) ∧ Below w.heap.size w wr) (fun _ i _ => 256 - (intOf i).toNat)
  case atStart => exact ⟨0, Nat.zero_le _, rfl, Own.nil _ _ _, Below.refl _ _⟩
  case round =>
    obtain ⟨k, hk, rfl, hO, hB⟩ := hrel
    by_cases hlt : k < 256
    · have cb := rbox_any k wr hlt
      have lb : gbox k < 256 := gbox_lt hlt
      have sn := bytesOf_snoc gbox k
      have ll : (bytesOf gbox k).length = k := length_bytesOf _ _
      have hs := hB.size
      generalize bytesOf gbox k = L at *
      generalize gbox k = d at *
      have f1 : IntKind.u8.wrap (k : Int) = (k : Int) := by rw [IntKind.wrap_u8]; omega
      replace cb := Lib.hid cb
      replace hO := Lib.hid hO
      replace hB := Lib.hid hB
      replace sn := Lib.hid sn
      replace lb := Lib.hid lb
      go_wp2_with fail
      refine cb.out.mono ?_
      rintro e w2 ⟨rfl, B2⟩
      have O2 := hO.out.below B2
      have low2 := hB.out.trans (B2.mono hs)
      have s2 := low2.size
      have t1 := lit1 (wx := w2) lb.out
      have Ba : Below w.heap.size w (w2.alloc (.cells #[.int .u8 (d : Int)] 5)) := low2.alloc s2 _
      have O3 := O2.alloc (.cells #[.int .u8 (d : Int)] 5)
      replace B2 := Lib.hid B2
      replace O2 := Lib.hid O2
      replace low2 := Lib.hid low2
      replace t1 := Lib.hid t1
      replace Ba := Lib.hid Ba
      replace O3 := Lib.hid O3
      go_wp2_with (at_builtin; refine wpList_append_s (by rfl) (.tmp 7) (.tmp 11) rfl w.heap.size w u1 L rfl O3.out Ba.out Ba.out.size _ [d] rfl t1.out (by rw [ll]; simp; omega) ?_; intro v7 w7 o7 B7)
      go_roundw
      case rel => exact ⟨k + 1, by omega, by go_num, by rw [sn.out]; exact o7.out, B7.out⟩
      case measure => simp [intOf]; omega
    · obtain rfl : k = 256 := by omega
      replace hO := Lib.hid hO
      replace hB := Lib.hid hB
      go_wp2_with fail
      go_ret
      exact ⟨_, rfl, hO.out, hB.out⟩
end Go.Proofs.Ytecmagenlbnchaa
namespace Go.Proofs.Ytecmagenlbnchaa
set_option maxRecDepth 100000
open Go.RowKit

/-! ### The words, plainly -/
theorem words_le (κ : Nat → Nat) {i : Nat} : ∀ j, i ≤ j → ∀ q, q < 4 * i → byt (wordsTo κ j) q = byt (wordsTo κ i) q
  | 0, h, q, hq => by omega
  | j + 1, h, q, hq => by
    by_cases e : i = j + 1
    · subst e; rfl
    · rw [byt_words_lo κ j (by omega)]
      exact words_le κ j (by omega) q hq
def wd (κ : Nat → Nat) (i : Nat) : List Nat := bytesOf (fun k => byt (wordsOf κ) (4 * i + k)) 4
theorem length_wd (κ : Nat → Nat) (i : Nat) : (wd κ i).length = 4 := length_bytesOf _ _
theorem wd_get (κ : Nat → Nat) {i k : Nat} (hi : i < 60) (hk : k < 4) : byt (wordsOf κ) (4 * i + k) = byt (nextW κ (wordsOf κ) i) k := by
  have e1 : byt (wordsOf κ) (4 * i + k) = byt (nextW κ (wordsTo κ i) i) k := (words_le κ (i := i + 1) 60 (by omega) (4 * i + k) (by omega)).trans (byt_words_hi κ i k)
  rw [e1, nextW_same (key := κ) (key' := κ) (L := wordsTo κ i) (L' := wordsOf κ) (fun _ _ => rfl) (fun q hq => (words_le κ 60 (by omega) q hq).symm)]
theorem wd_lo (κ : Nat → Nat) {i : Nat} (h8 : i < 8) : bytesOf (fun k => κ (4 * i + k)) 4 = wd κ i := bytesOf_congr fun k hk => by
  rw [wd_get κ (by omega) hk, nextW_lo _ _ h8, byt_range4 _ hk]
theorem wd_hi (κ : Nat → Nat) {i : Nat} (h8 : ¬ i < 8) (hi : i < 60) : bytesOf (xorF (wd κ (i - 8)) (bytesOf (powW (wordsOf κ) i) 4)) 4 = wd κ i := bytesOf_congr fun k hk => by
  rw [wd_get κ hi hk, nextW_hi _ _ h8, byt_range4 _ hk]
  unfold xorF wd
  rw [byt_bytesOf _ hk, byt_bytesOf _ hk]
theorem wd_prev (κ : Nat → Nat) (i : Nat) : wd κ (i - 1) = bytesOf (prevW (wordsOf κ) i) 4 := rfl
theorem wd_small {κ : Nat → Nat} (hs : ∀ i, κ i < 256) (i : Nat) : ∀ x ∈ wd κ i, x < 256 := bytesOf_lt fun _ _ => words_lt hs 60 _
theorem wordsT_wd (κ : Nat → Nat) : wordsT (byt (wordsOf κ)) = (List.range 60).map (wd κ) := rfl
theorem cut_bytes {t : List Nat} {lo n : Nat} (h : lo + n ≤ t.length) : (t.drop lo).take n = bytesOf (fun k => byt t (lo + k)) n := by
  apply List.ext_getElem?
  intro i
  by_cases hi : i < n
  · rw [List.getElem?_take_of_lt hi, List.getElem?_drop]
    simp [bytesOf, byt, List.getD, hi, show lo + i < t.length by omega]
  · rw [List.getElem?_eq_none (by simp; omega), List.getElem?_eq_none (by simp [bytesOf]; omega)]
theorem pow_bytes (L : List Nat) {i : Nat} (h : i % 8 = 0) : (bytesOf (boxW L i) 4).set 0 (boxW L i 0 ^^^ gpow 2 (i / 8 - 1)) = bytesOf (powW L i) 4 := by
  show [boxW L i 0 ^^^ gpow 2 (i / 8 - 1), boxW L i 1, boxW L i 2, boxW L i 3] = [powW L i 0, powW L i 1, powW L i 2, powW L i 3]
  unfold powW
  simp [h]
theorem rot_bytes (L : List Nat) {i : Nat} (h : i % 8 = 0) : [prevW L i 1, prevW L i 2, prevW L i 3, prevW L i 0] = bytesOf (rotW L i) 4 := by
  show _ = [rotW L i 0, rotW L i 1, rotW L i 2, rotW L i 3]
  unfold rotW
  simp [h]
theorem boxed_bytes (f : Nat → Nat) : bytesOf (fun k => gbox (byt (bytesOf f 4) k)) 4 = bytesOf (fun k => gbox (f k)) 4 := bytesOf_congr fun k hk => by rw [byt_bytesOf _ hk]

theorem pow_four (κ : Nat → Nat) {i : Nat} (h : i % 8 = 4) : bytesOf (fun k => gbox (byt (wd κ (i - 1)) k)) 4 = bytesOf (powW (wordsOf κ) i) 4 := bytesOf_congr fun k hk => by
  rw [wd_prev, byt_bytesOf _ hk]
  unfold powW boxW rotW
  rw [if_neg (by omega), if_pos (by omega), if_neg (by omega)]
theorem pow_else (κ : Nat → Nat) {i : Nat} (h0 : ¬ i % 8 = 0) (h4 : ¬ i % 8 = 4) : wd κ (i - 1) = bytesOf (powW (wordsOf κ) i) 4 := by
  rw [wd_prev]
  refine bytesOf_congr fun k hk => ?_
  unfold powW boxW rotW
  rw [if_neg (by omega), if_neg (by omega), if_neg (by omega)]
theorem box_zero (κ : Nat → Nat) {i : Nat} (h : i % 8 = 0) : bytesOf (fun k => gbox (byt [byt (wd κ (i - 1)) 1, byt (wd κ (i - 1)) 2, byt (wd κ (i - 1)) 3, byt (wd κ (i - 1)) 0] k)) 4 = bytesOf (boxW (wordsOf κ) i) 4 := by
  rw [wd_prev, byt_bytesOf _ (by decide), byt_bytesOf _ (by decide), byt_bytesOf _ (by decide), byt_bytesOf _ (by decide), rot_bytes _ h, boxed_bytes]
  refine bytesOf_congr fun k hk => ?_
  unfold boxW
  rw [if_pos (by omega)]

/-! ### What New keeps -/
theorem own_typed {w : World} {base k : Nat} {e : TypeId} {v : Value} {xs : List Value} (h : Own w base e v xs) (hk : v.ownBlock = some k) : ∃ cur, w.heap[k]? = some (.cells cur e (0, 0)) := by
  rcases h.2 with ⟨rfl, _⟩ | ⟨g, cap, cur, rfl, _, hg, _⟩
  · simp [Value.ownBlock] at hk
  · simp [Value.ownBlock] at hk
    subst hk
    exact ⟨cur, hg⟩
theorem own_apart {w : World} {b1 b2 : Nat} {v u : Value} {xs ys : List Value} (h : Own w b1 5 v xs) (k : Own w b2 25 u ys) : ∀ q, v.ownBlock = some q → some q ≠ u.ownBlock := fun q hq e => by
  obtain ⟨c1, h1⟩ := own_typed h hq
  obtain ⟨c2, h2⟩ := own_typed k e.symm
  rw [h1] at h2
  simp at h2
theorem Own.shape {w : World} {base : Nat} {e : TypeId} {v : Value} {xs : List Value} (h : Own w base e v xs) : ∃ a n c, v = .slice a n c := by
  obtain ⟨ao, cap, ev, _⟩ := h.form
  exact ⟨_, _, _, ev⟩
/-- A word of a cipher that is made: a part of the key, or of the call's own. -/
def Word (w wr : World) (c : Nat) (u : Value) (t : List Nat) : Prop := TextAt w u t ∨ (Own wr (c + 1) 5 u (u8l t) ∧ ∀ x ∈ t, x < 256)
theorem Word.text {w wr : World} {c : Nat} {u : Value} {t : List Nat} (h : Word w wr c u t) (hB : Below w.heap.size w wr) : TextAt wr u t := by
  rcases h with h | ⟨h, hs⟩
  · exact h.below hB
  · exact h.text hs
theorem Word.below {w wr w' : World} {c : Nat} {u : Value} {t : List Nat} (h : Word w wr c u t) (hB : Below wr.heap.size wr w') : Word w w' c u t := by
  rcases h with h | ⟨h, hs⟩
  · exact .inl h
  · exact .inr ⟨h.below hB, hs⟩
structure NewR (w wr : World) (c : Nat) (vw vb vk : Value) (κ : Nat → Nat) (n m : Nat) : Prop where
  row : wr.heap[c]? = some (.cells #[vw, vb, vk] 100 (0, 0))
  box : Own wr 0 5 vb (u8l (bytesOf gbox 256))
  boxc : ∀ k, vb.ownBlock = some k → k < c
  unb : Own wr (c + 1) 5 vk (u8l (bytesOf gunb n))
  words : ∃ vs : List Value, Own wr (c + 1) 25 vw vs ∧ vs.length = m ∧ ∀ (i : Nat) (u : Value), vs[i]? = some u → Word w wr c u (wd κ i)
  low : Below w.heap.size w wr
  far : w.heap.size ≤ c
theorem NewR.below {w wr w' : World} {c : Nat} {vw vb vk : Value} {κ : Nat → Nat} {n m : Nat} (h : NewR w wr c vw vb vk κ n m) (hB : Below wr.heap.size wr w') : NewR w w' c vw vb vk κ n m := by
  obtain ⟨vs, h1, h2, h3⟩ := h.words
  exact ⟨(hB.block c (lt_of_block h.row)).trans h.row, h.box.below hB, h.boxc, h.unb.below hB, ⟨vs, h1.below hB, h2, fun i u e => (h3 i u e).below hB⟩, h.low.trans (hB.mono h.low.size), h.far⟩
theorem NewR.begin {w w1 : World} {v8 : Value} (κ : Nat → Nat) (o : Own w1 w.heap.size 5 v8 (u8l (bytesOf gbox 256))) (B : Below w.heap.size w w1) :
    NewR w (w1.alloc (.cells #[.slice none 0 0, v8, .slice none 0 0] 100)) w1.heap.size (.slice none 0 0) v8 (.slice none 0 0) κ 0 0 :=
  ⟨heap_alloc_new _ _, (o.weaken (Nat.zero_le _)).alloc _, fun k hk => (o.lt k hk).2, Own.nil _ _ _, ⟨[], Own.nil _ _ _, rfl, fun i u e => by simp at e⟩, B.alloc B.size _, B.size⟩
theorem NewR.cell {w wr : World} {c : Nat} {vw vb vk : Value} {κ : Nat → Nat} {n m : Nat} (h : NewR w wr c vw vb vk κ n m) : wr.cell? ⟨c, 0, none⟩ = some vw ∧ wr.cell? ⟨c, 1, none⟩ = some vb ∧ wr.cell? ⟨c, 2, none⟩ = some vk :=
  ⟨(cell_of_row _ _ 0 _ _ _ h.row).trans rfl, (cell_of_row _ _ 1 _ _ _ h.row).trans rfl, (cell_of_row _ _ 2 _ _ _ h.row).trans rfl⟩
theorem NewR.putK {w wa w9 : World} {c : Nat} {vb vk v9 : Value} {κ : Nat → Nat} {n : Nat} (h : NewR w wa c (.slice none 0 0) vb vk κ n 0)
    (B9 : Below (c + 1) wa w9) (O9 : Own w9 (c + 1) 5 v9 (u8l (bytesOf gunb (n + 1)))) : NewR w (w9.setCell ⟨c, 2, none⟩ v9) c (.slice none 0 0) vb v9 κ (n + 1) 0 := by
  have hc := lt_of_block h.row
  have r9 := (B9.block c (Nat.lt_succ_self c)).trans h.row
  refine ⟨?_, ?_, h.boxc, ?_, ⟨[], Own.nil _ _ _, rfl, fun i u e => by simp at e⟩, ?_, h.far⟩
  · rw [heap_setCell_same _ _ _ _ _ _ r9]; rfl
  · exact h.box.other fun k hk => by
      have := h.boxc k hk
      rw [heap_setCell_other _ _ _ _ (show k ≠ c by omega)]
      exact B9.block k (by omega)
  · exact O9.other fun k hk => heap_setCell_other _ _ _ _ (by have := (O9.lt k hk).1; show k ≠ c; omega)
  · exact (h.low.trans (B9.mono (by have := h.far; omega))).setCell (p := ⟨c, 2, none⟩) h.far _
theorem NewR.putW {w wa w9 : World} {c : Nat} {vw vb vk v9 u : Value} {κ : Nat → Nat} {n m : Nat} {vs : List Value} (h : NewR w wa c vw vb vk κ n m) (hvs : Own wa (c + 1) 25 vw vs) (hm : vs.length = m)
    (hel : ∀ (i : Nat) (u : Value), vs[i]? = some u → Word w wa c u (wd κ i)) (hu : Word w wa c u (wd κ m)) (B9 : Below (c + 1) wa w9) (G9 : wa.grownBy w9 vw.ownBlock) (O9 : Own w9 (c + 1) 25 v9 (vs ++ [u])) :
    NewR w (w9.setCell ⟨c, 0, none⟩ v9) c v9 vb vk κ n (m + 1) := by
  have hc := lt_of_block h.row
  have r9 := (B9.block c (Nat.lt_succ_self c)).trans h.row
  have keepO : ∀ {v : Value} {xs : List Value}, Own wa (c + 1) 5 v xs → Own (w9.setCell ⟨c, 0, none⟩ v9) (c + 1) 5 v xs := fun {v xs} hv => hv.other fun k hk => by
    have h1 := hv.lt k hk
    rw [heap_setCell_other _ _ _ _ (show k ≠ c by omega)]
    exact G9.block k h1.2 (own_apart hv hvs k hk)
  have keepW : ∀ {v : Value} {t : List Nat}, Word w wa c v t → Word w (w9.setCell ⟨c, 0, none⟩ v9) c v t := fun {v t} hv => by
    rcases hv with hv | ⟨hv, hs⟩
    · exact .inl hv
    · exact .inr ⟨keepO hv, hs⟩
  refine ⟨?_, ?_, h.boxc, keepO h.unb, ⟨vs ++ [u], ?_, by simp [hm], fun i x e => ?_⟩, ?_, h.far⟩
  · rw [heap_setCell_same _ _ _ _ _ _ r9]; rfl
  · exact h.box.other fun k hk => by
      have := h.boxc k hk
      rw [heap_setCell_other _ _ _ _ (show k ≠ c by omega)]
      exact B9.block k (by omega)
  · exact O9.other fun k hk => heap_setCell_other _ _ _ _ (by have := (O9.lt k hk).1; show k ≠ c; omega)
  · by_cases hi : i < vs.length
    · rw [List.getElem?_append_left hi] at e
      exact keepW (hel i x e)
    · have hi2 : i = vs.length := by
        have := (List.getElem?_eq_some_iff.1 e).1
        simp at this; omega
      rw [hi2, List.getElem?_append_right (Nat.le_refl _), Nat.sub_self] at e
      obtain rfl : u = x := by simpa using e
      rw [hi2, hm]
      exact keepW hu
  · exact (h.low.trans (B9.mono (by have := h.far; omega))).setCell (p := ⟨c, 0, none⟩) h.far _
theorem NewR.done {w wr : World} {c : Nat} {vw vb vk : Value} {κ : Nat → Nat} (h : NewR w wr c vw vb vk κ 256 60) : ∃ aw cw, RefC wr c aw cw vb vk (byt (wordsOf κ)) := by
  obtain ⟨vs, h1, h2, h3⟩ := h.words
  obtain ⟨ao, cap, e, c1, _, _, _, c5⟩ := h1.form
  refine ⟨ao, cap, ?_, ?_, h.box.text (bytesOf_lt fun i hi => gbox_lt hi), h.unb.text (bytesOf_lt fun i hi => gunb_lt hi)⟩
  · have r := h.row
    rw [e, h2] at r
    exact r
  · rw [wordsT_wd]
    intro i hi
    have hi60 : i < 60 := by simpa using hi
    have ev : vs[i]? = some vs[i] := List.getElem?_eq_getElem (by omega)
    obtain ⟨g, e2, hc, _⟩ := c5 i _ ev
    obtain ⟨ai, ci, e3, d1, d2, d3⟩ := ((h3 i _ ev).text h.low).ex
    have eg : ((List.range 60).map (wd κ)).getD i [] = wd κ i := by simp [List.getD, hi60]
    rw [eg]
    exact ⟨g, 0, e2, ai, ci, by rw [Nat.zero_add, hc, e3], d1, d3, d2⟩
theorem below_grown {wa w9 : World} {base : Nat} {e : TypeId} {v : Value} {xs : List Value} (h : Own wa base e v xs) (hb : base ≤ wa.heap.size) (G : wa.grownBy w9 v.ownBlock) : Below base wa w9 :=
  ⟨G.os, G.tape, G.output, G.size, fun k hk => G.block k (by omega) fun e => by have := (h.lt k e.symm).1; omega⟩
theorem Own.setU {w : World} {base g n c i x : Nat} {t : List Nat} (h : Own w base 5 (.slice (some ⟨g, 0, none⟩) n c) (u8l t)) (hn : n = t.length) : Own (w.setCell ⟨g, i, none⟩ (.int .u8 (x : Int))) base 5 (.slice (some ⟨g, 0, none⟩) n c) (u8l (t.set i x)) := by
  have e : (u8l t).length = n := by rw [hn]; simp [u8l]
  have h2 : w.ownsRow base 5 1 (.slice (some ⟨g, 0, none⟩) n c) n (u8l t) := by have := h; unfold Own at this; rw [e] at this; exact this
  have h3 := (h2.stored i (.int .u8 (x : Int))).1
  have e2 : (u8l t).set i (.int .u8 (x : Int)) = u8l (t.set i x) := by simp [u8l, List.map_set]
  rw [e2] at h3
  unfold Own
  rw [show (u8l (t.set i x)).length = n by rw [hn]; simp [u8l]]
  exact h3
end Go.Proofs.Ytecmagenlbnchaa
namespace Go.Proofs.Ytecmagenlbnchaa
set_option maxRecDepth 100000
open Go.RowKit

theorem infoRow5 : (Try.prog.info? 25).map (fun i => (i.zero, i.size, i.bytes)) = some (some (.slice none 0 0), 1, 24) := by kernel_rfl
theorem onceW {P R : World → Prop} {G : Prop} (tree : (∀ w, R w → P w) → G) (leaf : ∀ w, R w → P w) : G := tree leaf
/-- Every order ends alike: the end is shown once. -/
theorem onceV {P R : Option Addr → Nat → Nat → World → Prop} {G : Prop} (tree : (∀ a n c w, R a n c w → P a n c w) → G) (leaf : ∀ a n c w, R a n c w → P a n c w) : G := tree leaf

set_option maxHeartbeats 8000000 in
set_option maxRecDepth 100000 in
theorem rnew_any (w : World) (v : Value) (key : List Nat) (hk : key.length = 32) (hv : TextAt w v key) :
    Calls Try.prog 37 #[v] w fun e w' => ∃ c aw cw vb vk, e = .returned (.pointer (some ⟨c, 0, none⟩)) ∧ RefC w' c aw cw vb vk (byt (wordsOf (byt key))) ∧ Below w.heap.size w w' := by
  have hs := hv.small
  have hsb := byt_lt hs
  obtain ⟨ak, ck, rfl, hcap, _⟩ := hv.ex
  have cuts := fun q (hq : q < 8) => TextAt.cut (lo := 4 * q) (hi := 4 * q + 4) hv (by omega) (by omega)
  have cutt : ∀ q, q < 8 → TextAt w (.slice (cutA ak ck (4 * q)) 4 (ck - 4 * q)) (wd (byt key) q) := fun q hq => by
    have h := cuts q hq
    rw [show 4 * q + 4 - 4 * q = 4 by omega, cut_bytes (by omega), wd_lo (byt key) hq] at h
    exact h
  rw [hk] at hcap ⊢
  clear cuts
  replace hv := Lib.hid hv
  replace cutt := Lib.hid cutt
  replace hk := Lib.hid hk
  replace hs := Lib.hid hs
  replace hsb := Lib.hid hsb
  go_enter Try.func37, Try.ntmps37
  go_wp2_with fail
  refine (rboxes_any _).mono ?_
  rintro e w1 ⟨v8, rfl, o8, B8⟩
  have n0 := NewR.begin (byt key) o8 B8
  obtain ⟨a8, n8, c8, rfl⟩ := o8.shape
  replace o8 := Lib.hid o8
  replace B8 := Lib.hid B8
  replace n0 := Lib.hid n0
  go_wp2_with fail
  go_loopw [4] (fun iv wr => ∃ (k : Nat) (vk : Value), k ≤ 256 ∧ iv = .int .i64 k ∧ NewR w wr w1.heap.size (.slice none 0 0) (.slice a8 n8 c8) vk (byt key) k 0) (fun iv _ => 256 - (intOf iv).toNat)
  case atStart => exact ⟨0, _, Nat.zero_le _, rfl, n0.out⟩
  case round =>
    clear n0
    obtain ⟨k, vk, hk256, rfl, hN⟩ := hrel
    by_cases hlt : k < 256
    · have lu : gunb k < 256 := gunb_lt hlt
      have hNd := hN.below (w' := wr.drew) (Below.refl _ _).drew
      have Bal : Below wr.drew.heap.size wr.drew (wr.drew.alloc (.cells #[.int .u8 (gunb k : Int)] 5)) := (Below.refl _ _).alloc (Nat.le_refl _) _
      have hNa := hNd.below Bal
      have cu := runbox_any k wr.drew _ (hNd.box.text (bytesOf_lt fun i hi => gbox_lt hi)) hlt
      have f1 : IntKind.u8.wrap (k : Int) = (k : Int) := IntWalk.u8_in _ (by omega)
      obtain ⟨_, cB, cK⟩ := hNd.cell
      obtain ⟨_, cBa, cKa⟩ := hNa.cell
      have cK0 : wr.cell? ⟨w1.heap.size, 2, none⟩ = some vk := hN.cell.2.2
      have hsz : w1.heap.size < wr.heap.size := lt_of_block hN.row
      have t1 := lit1 (wx := wr.drew) lu
      have sn := bytesOf_snoc gunb k
      have ll : (bytesOf gunb k).length = k := length_bytesOf _ _
      have rowA := hNa.row
      have hsA : w1.heap.size + 1 ≤ (wr.drew.alloc (.cells #[.int .u8 (gunb k : Int)] 5)).heap.size := lt_of_block rowA
      have OA := hNa.unb
      replace hN := Lib.hid hN
      replace hNd := Lib.hid hNd
      replace hNa := Lib.hid hNa
      replace t1 := Lib.hid t1
      replace sn := Lib.hid sn
      replace OA := Lib.hid OA
      replace hsA := Lib.hid hsA
      replace lu := Lib.hid lu
      replace Bal := Lib.hid Bal
      go_wp2_with fail
      refine wp_region_held_drew (S := (fun w' => w'.cell? ⟨w1.heap.size, 1, none⟩ = some (.slice a8 n8 c8))) (by kernel_rfl) (cB) (fun hHeld => ?_)
      refine held_take (i := 0) (v := ?_) rfl (by kernel_rfl) (by kernel_rfl) (by kernel_rfl) (fun _ _ _ h => h) (Or.inl ⟨by rfl, ?_⟩) (by assumption) ?_
      rotate_left
      · intro w hSw; (try dsimp only at hSw); go_simp; try with_reducible rfl
      try simp only [Act.put, List.setIfInBounds_toArray, List.set_cons_zero, List.set_cons_succ]
      refine held_take (i := 1) (v := ?_) rfl (by kernel_rfl) (by kernel_rfl) (by kernel_rfl) (fun _ _ _ h => h) (Or.inl ⟨by rfl, ?_⟩) (by assumption) ?_
      rotate_left
      · intro w hSw; (try dsimp only at hSw); go_simp; try with_reducible rfl
      try simp only [Act.put, List.setIfInBounds_toArray, List.set_cons_zero, List.set_cons_succ]
      refine held_take (i := 2) (v := ?_) rfl (by kernel_rfl) (by kernel_rfl) (by kernel_rfl) (fun _ _ _ h => h) (Or.inl ⟨by rfl, ?_⟩) (by assumption) ?_
      rotate_left
      · intro w hSw; (try dsimp only at hSw); go_simp; try with_reducible rfl
      try simp only [Act.put, List.setIfInBounds_toArray, List.set_cons_zero, List.set_cons_succ]
      refine held_take (i := 3) (v := ?_) rfl (by kernel_rfl) (by kernel_rfl) (by kernel_rfl) (fun _ _ _ h => h) (Or.inl ⟨by rfl, ?_⟩) (by assumption) ?_
      rotate_left
      · intro w hSw; (try dsimp only at hSw); go_simp; try with_reducible rfl
      try simp only [Act.put, List.setIfInBounds_toArray, List.set_cons_zero, List.set_cons_succ]
      refine held_take (i := 5) (v := ?_) rfl (by kernel_rfl) (by kernel_rfl) (by kernel_rfl) (fun _ _ _ h => h) (Or.inl ⟨by rfl, ?_⟩) (by assumption) ?_
      rotate_left
      · intro w hSw; (try dsimp only at hSw); go_simp; try with_reducible rfl
      try simp only [Act.put, List.setIfInBounds_toArray, List.set_cons_zero, List.set_cons_succ]
      refine held_take (i := 6) (v := ?_) rfl (by kernel_rfl) (by kernel_rfl) (by kernel_rfl) (fun _ _ _ h => h) (Or.inl ⟨by rfl, ?_⟩) (by assumption) ?_
      rotate_left
      · intro w hSw; (try dsimp only at hSw); go_simp; try with_reducible rfl
      try simp only [Act.put, List.setIfInBounds_toArray, List.set_cons_zero, List.set_cons_succ]
      refine held_take (i := 7) (v := ?_) rfl (by kernel_rfl) (by kernel_rfl) (by kernel_rfl) (fun _ _ _ h => h) (Or.inl ⟨by rfl, ?_⟩) (by assumption) ?_
      rotate_left
      · intro w hSw; (try dsimp only at hSw); go_simp; try with_reducible rfl
      try simp only [Act.put, List.setIfInBounds_toArray, List.set_cons_zero, List.set_cons_succ]
      refine held_take (i := 8) (v := ?_) rfl (by kernel_rfl) (by kernel_rfl) (by kernel_rfl) (fun _ _ _ h => h) (Or.inl ⟨by rfl, ?_⟩) (by assumption) ?_
      rotate_left
      · intro w hSw; (try dsimp only at hSw); go_simp; try with_reducible rfl
      try simp only [Act.put, List.setIfInBounds_toArray, List.set_cons_zero, List.set_cons_succ]
      refine held_take (i := 9) (v := ?_) rfl (by kernel_rfl) (by kernel_rfl) (by kernel_rfl) (fun _ _ _ h => h) (Or.inl ⟨by rfl, ?_⟩) (by assumption) ?_
      rotate_left
      · intro w hSw; (try dsimp only at hSw); go_simp; try with_reducible rfl
      try simp only [Act.put, List.setIfInBounds_toArray, List.set_cons_zero, List.set_cons_succ]
      refine held_take (i := 10) (v := ?_) rfl (by kernel_rfl) (by kernel_rfl) (by kernel_rfl) (fun _ _ _ h => h) (Or.inl ⟨by rfl, ?_⟩) (by assumption) ?_
      rotate_left
      · intro w hSw; (try dsimp only at hSw); go_simp; try with_reducible rfl
      try simp only [Act.put, List.setIfInBounds_toArray, List.set_cons_zero, List.set_cons_succ]
      refine held_readies2 (i0 := 4) (i1 := 11) rfl rfl (by kernel_rfl) (fun K hK => ?_) (fun K hK => ?_)
      ·
        rw [if_pos (by rfl)]
        go_simp
        refine hK.out _ _ ((by first | exact cB | exact cBa)) (fun hHeldN => ?_)
        clear hHeld hK K
        have hHeld := hHeldN
        clear hHeldN
        try simp only [Act.put, List.setIfInBounds_toArray, List.set_cons_zero, List.set_cons_succ]
        refine held_ready (i := 11) rfl (by kernel_rfl) (fun K hK => ?_)
        go_simp
        refine cu.mono ?_
        rintro e w3 ⟨rfl, rfl⟩
        refine hK.out _ _ (cB) (fun hHeldN => ?_)
        clear hHeld hK K
        have hHeld := hHeldN
        clear hHeldN
        try simp only [Act.put, List.setIfInBounds_toArray, List.set_cons_zero, List.set_cons_succ]
        refine held_ready (i := 12) rfl (by kernel_rfl) (fun K hK => ?_)
        rw [if_pos (by rfl)]
        go_simp
        refine hK.out _ _ (cBa) (fun hHeldN => ?_)
        clear hHeld hK K
        have hHeld := hHeldN
        clear hHeldN
        try simp only [Act.put, List.setIfInBounds_toArray, List.set_cons_zero, List.set_cons_succ]
        refine held_ready (i := 13) rfl (by kernel_rfl) (fun K hK => ?_)
        rw [if_pos (by rfl)]
        refine wp_append_t (.tmp 19) (.tmp 27) rfl (w1.heap.size + 1) _ vk (bytesOf gunb k) rfl OA.out (Below.refl _ _) hsA.out _ [gunb k] rfl t1.out (by rw [ll]; simp; omega) ?_
        intro v9 w9 O9 B9 G9 H9
        rw [← sn.out] at O9
        have row9 := (B9.out.block w1.heap.size (Nat.lt_succ_self _)).trans rowA
        have nF := hNa.out.putK B9.out O9.out
        have hf : w9.frozen? ⟨w1.heap.size, 2, none⟩ = false := frozen_of_row _ _ _ _ _ row9
        have hc9 : w9.cell? ⟨w1.heap.size, 2, none⟩ = some vk := (cell_of_row _ _ 2 _ _ _ row9).trans rfl
        have cB9 : w9.cell? ⟨w1.heap.size, 1, none⟩ = some (.slice a8 n8 c8) := (cell_of_row _ _ 1 _ _ _ row9).trans rfl
        obtain ⟨a9, n9, c9, rfl⟩ := O9.out.shape
        have cBF := nF.cell.2.1
        clear row9 B9 G9 H9 O9
        replace nF := Lib.hid nF
        refine hK.out _ _ (cB9) (fun hHeldN => ?_)
        clear hHeld hK K
        have hHeld := hHeldN
        clear hHeldN
        try simp only [Act.put, List.setIfInBounds_toArray, List.set_cons_zero, List.set_cons_succ]
        refine held_take (i := 14) (v := ?_) rfl (by kernel_rfl) (by kernel_rfl) (by kernel_rfl) (fun _ _ _ h => h) (Or.inl ⟨by rfl, ?_⟩) (by assumption) ?_
        rotate_left
        · intro w hSw; (try dsimp only at hSw); go_simp; try with_reducible rfl
        try simp only [Act.put, List.setIfInBounds_toArray, List.set_cons_zero, List.set_cons_succ]
        refine held_take (i := 15) (v := ?_) rfl (by kernel_rfl) (by kernel_rfl) (by kernel_rfl) (fun _ _ _ h => h) (Or.inl ⟨by rfl, ?_⟩) (by assumption) ?_
        rotate_left
        · intro w hSw; (try dsimp only at hSw); go_simp; try with_reducible rfl
        try simp only [Act.put, List.setIfInBounds_toArray, List.set_cons_zero, List.set_cons_succ]
        refine held_ready (i := 16) rfl (by kernel_rfl) (fun K hK => ?_)
        go_simp
        refine hK.out _ _ (cBF) (fun hHeldN => ?_)
        clear hHeld hK K
        have hHeld := hHeldN
        clear hHeldN
        try simp only [Act.put, List.setIfInBounds_toArray, List.set_cons_zero, List.set_cons_succ]
        refine wpAnyH_done (by kernel_rfl) ?_ _
        clear hHeld
        go_wp2_with fail
        go_roundw
        case rel => exact ⟨k + 1, _, by omega, by go_num, nF.out⟩
        case measure => simp [intOf]; omega
      ·
        go_simp
        refine cu.mono ?_
        rintro e w3 ⟨rfl, rfl⟩
        refine hK.out _ _ (cB) (fun hHeldN => ?_)
        clear hHeld hK K
        have hHeld := hHeldN
        clear hHeldN
        try simp only [Act.put, List.setIfInBounds_toArray, List.set_cons_zero, List.set_cons_succ]
        refine held_readies2 (i0 := 4) (i1 := 12) rfl rfl (by kernel_rfl) (fun K hK => ?_) (fun K hK => ?_)
        ·
          rw [if_pos (by rfl)]
          go_simp
          refine hK.out _ _ ((by first | exact cB | exact cBa)) (fun hHeldN => ?_)
          clear hHeld hK K
          have hHeld := hHeldN
          clear hHeldN
          try simp only [Act.put, List.setIfInBounds_toArray, List.set_cons_zero, List.set_cons_succ]
          refine held_ready (i := 12) rfl (by kernel_rfl) (fun K hK => ?_)
          rw [if_pos (by rfl)]
          go_simp
          refine hK.out _ _ (cBa) (fun hHeldN => ?_)
          clear hHeld hK K
          have hHeld := hHeldN
          clear hHeldN
          try simp only [Act.put, List.setIfInBounds_toArray, List.set_cons_zero, List.set_cons_succ]
          refine held_ready (i := 13) rfl (by kernel_rfl) (fun K hK => ?_)
          rw [if_pos (by rfl)]
          refine wp_append_t (.tmp 19) (.tmp 27) rfl (w1.heap.size + 1) _ vk (bytesOf gunb k) rfl OA.out (Below.refl _ _) hsA.out _ [gunb k] rfl t1.out (by rw [ll]; simp; omega) ?_
          intro v9 w9 O9 B9 G9 H9
          rw [← sn.out] at O9
          have row9 := (B9.out.block w1.heap.size (Nat.lt_succ_self _)).trans rowA
          have nF := hNa.out.putK B9.out O9.out
          have hf : w9.frozen? ⟨w1.heap.size, 2, none⟩ = false := frozen_of_row _ _ _ _ _ row9
          have hc9 : w9.cell? ⟨w1.heap.size, 2, none⟩ = some vk := (cell_of_row _ _ 2 _ _ _ row9).trans rfl
          have cB9 : w9.cell? ⟨w1.heap.size, 1, none⟩ = some (.slice a8 n8 c8) := (cell_of_row _ _ 1 _ _ _ row9).trans rfl
          obtain ⟨a9, n9, c9, rfl⟩ := O9.out.shape
          have cBF := nF.cell.2.1
          clear row9 B9 G9 H9 O9
          replace nF := Lib.hid nF
          refine hK.out _ _ (cB9) (fun hHeldN => ?_)
          clear hHeld hK K
          have hHeld := hHeldN
          clear hHeldN
          try simp only [Act.put, List.setIfInBounds_toArray, List.set_cons_zero, List.set_cons_succ]
          refine held_take (i := 14) (v := ?_) rfl (by kernel_rfl) (by kernel_rfl) (by kernel_rfl) (fun _ _ _ h => h) (Or.inl ⟨by rfl, ?_⟩) (by assumption) ?_
          rotate_left
          · intro w hSw; (try dsimp only at hSw); go_simp; try with_reducible rfl
          try simp only [Act.put, List.setIfInBounds_toArray, List.set_cons_zero, List.set_cons_succ]
          refine held_take (i := 15) (v := ?_) rfl (by kernel_rfl) (by kernel_rfl) (by kernel_rfl) (fun _ _ _ h => h) (Or.inl ⟨by rfl, ?_⟩) (by assumption) ?_
          rotate_left
          · intro w hSw; (try dsimp only at hSw); go_simp; try with_reducible rfl
          try simp only [Act.put, List.setIfInBounds_toArray, List.set_cons_zero, List.set_cons_succ]
          refine held_ready (i := 16) rfl (by kernel_rfl) (fun K hK => ?_)
          go_simp
          refine hK.out _ _ (cBF) (fun hHeldN => ?_)
          clear hHeld hK K
          have hHeld := hHeldN
          clear hHeldN
          try simp only [Act.put, List.setIfInBounds_toArray, List.set_cons_zero, List.set_cons_succ]
          refine wpAnyH_done (by kernel_rfl) ?_ _
          clear hHeld
          go_wp2_with fail
          go_roundw
          case rel => exact ⟨k + 1, _, by omega, by go_num, nF.out⟩
          case measure => simp [intOf]; omega
        ·
          rw [if_pos (by rfl)]
          go_simp
          refine hK.out _ _ (cBa) (fun hHeldN => ?_)
          clear hHeld hK K
          have hHeld := hHeldN
          clear hHeldN
          try simp only [Act.put, List.setIfInBounds_toArray, List.set_cons_zero, List.set_cons_succ]
          refine held_ready (i := 4) rfl (by kernel_rfl) (fun K hK => ?_)
          rw [if_pos (by rfl)]
          go_simp
          refine hK.out _ _ ((by first | exact cB | exact cBa)) (fun hHeldN => ?_)
          clear hHeld hK K
          have hHeld := hHeldN
          clear hHeldN
          try simp only [Act.put, List.setIfInBounds_toArray, List.set_cons_zero, List.set_cons_succ]
          refine held_ready (i := 13) rfl (by kernel_rfl) (fun K hK => ?_)
          rw [if_pos (by rfl)]
          refine wp_append_t (.tmp 19) (.tmp 27) rfl (w1.heap.size + 1) _ vk (bytesOf gunb k) rfl OA.out (Below.refl _ _) hsA.out _ [gunb k] rfl t1.out (by rw [ll]; simp; omega) ?_
          intro v9 w9 O9 B9 G9 H9
          rw [← sn.out] at O9
          have row9 := (B9.out.block w1.heap.size (Nat.lt_succ_self _)).trans rowA
          have nF := hNa.out.putK B9.out O9.out
          have hf : w9.frozen? ⟨w1.heap.size, 2, none⟩ = false := frozen_of_row _ _ _ _ _ row9
          have hc9 : w9.cell? ⟨w1.heap.size, 2, none⟩ = some vk := (cell_of_row _ _ 2 _ _ _ row9).trans rfl
          have cB9 : w9.cell? ⟨w1.heap.size, 1, none⟩ = some (.slice a8 n8 c8) := (cell_of_row _ _ 1 _ _ _ row9).trans rfl
          obtain ⟨a9, n9, c9, rfl⟩ := O9.out.shape
          have cBF := nF.cell.2.1
          clear row9 B9 G9 H9 O9
          replace nF := Lib.hid nF
          refine hK.out _ _ (cB9) (fun hHeldN => ?_)
          clear hHeld hK K
          have hHeld := hHeldN
          clear hHeldN
          try simp only [Act.put, List.setIfInBounds_toArray, List.set_cons_zero, List.set_cons_succ]
          refine held_take (i := 14) (v := ?_) rfl (by kernel_rfl) (by kernel_rfl) (by kernel_rfl) (fun _ _ _ h => h) (Or.inl ⟨by rfl, ?_⟩) (by assumption) ?_
          rotate_left
          · intro w hSw; (try dsimp only at hSw); go_simp; try with_reducible rfl
          try simp only [Act.put, List.setIfInBounds_toArray, List.set_cons_zero, List.set_cons_succ]
          refine held_take (i := 15) (v := ?_) rfl (by kernel_rfl) (by kernel_rfl) (by kernel_rfl) (fun _ _ _ h => h) (Or.inl ⟨by rfl, ?_⟩) (by assumption) ?_
          rotate_left
          · intro w hSw; (try dsimp only at hSw); go_simp; try with_reducible rfl
          try simp only [Act.put, List.setIfInBounds_toArray, List.set_cons_zero, List.set_cons_succ]
          refine held_ready (i := 16) rfl (by kernel_rfl) (fun K hK => ?_)
          go_simp
          refine hK.out _ _ (cBF) (fun hHeldN => ?_)
          clear hHeld hK K
          have hHeld := hHeldN
          clear hHeldN
          try simp only [Act.put, List.setIfInBounds_toArray, List.set_cons_zero, List.set_cons_succ]
          refine wpAnyH_done (by kernel_rfl) ?_ _
          clear hHeld
          go_wp2_with fail
          go_roundw
          case rel => exact ⟨k + 1, _, by omega, by go_num, nF.out⟩
          case measure => simp [intOf]; omega
    · obtain rfl : k = 256 := by omega
      simp only [show ((256 : Nat) : Int) = 256 from rfl]
      replace hN := Lib.hid hN
      go_wp2_with fail
      go_loopw [5] (fun iv wr => ∃ (q : Nat) (vw : Value), q ≤ 8 ∧ iv = .int .i64 q ∧ NewR w wr w1.heap.size vw (.slice a8 n8 c8) vk (byt key) 256 q) (fun iv _ => 8 - (intOf iv).toNat)
      case atStart => exact ⟨0, _, Nat.zero_le _, rfl, hN.out⟩
      case round =>
        clear hN
        obtain ⟨q, vw, hq8, rfl, hN⟩ := hrel
        by_cases hqt : q < 8
        · obtain ⟨z, ez⟩ : ∃ z, z = 4 * q := ⟨_, rfl⟩
          have m1 : IntKind.i64.wrap (4 * (q : Int)) = (z : Int) := by rw [IntWalk.i64_in _ (by omega)]; omega
          have m2 : IntKind.i64.wrap ((z : Int) + 4) = (z : Int) + 4 := IntWalk.i64_in _ (by omega)
          have cut := run_cut_lh (P := Try.prog) (T := 25) (e := 5) Try.underlying25 (by kernel_rfl) ak 32 ck z (z + 4) (by omega) (by omega) ((z : Int)) ((z : Int) + 4) rfl (by omega)
          rw [show z + 4 - z = 4 by omega] at cut
          have tk := cutt.out q hqt
          rw [← ez] at tk
          obtain ⟨ax, eax⟩ : ∃ ax, ax = cutA ak ck z := ⟨_, rfl⟩
          obtain ⟨cx, ecx⟩ : ∃ cx, cx = ck - z := ⟨_, rfl⟩
          rw [← eax, ← ecx] at cut tk
          have hNd := hN.below (w' := wr.drew) (Below.refl _ _).drew
          have Bal : Below wr.drew.heap.size wr.drew (wr.drew.alloc (.cells #[.slice ax 4 cx] 25)) := (Below.refl _ _).alloc (Nat.le_refl _) _
          have hNa := hNd.below Bal
          obtain ⟨vs, hvs, hvl, hve⟩ := hNa.words
          obtain ⟨cW, _, _⟩ := hNd.cell
          obtain ⟨cWa, _, _⟩ := hNa.cell
          have cW0 : wr.cell? ⟨w1.heap.size, 0, none⟩ = some vw := hN.cell.1
          have hsz : w1.heap.size < wr.heap.size := lt_of_block hN.row
          have rowA := hNa.row
          have hsA : w1.heap.size + 1 ≤ (wr.drew.alloc (.cells #[.slice ax 4 cx] 25)).heap.size := lt_of_block rowA
          have news : ∀ (j : Nat) (u : Value), [Value.slice ax 4 cx][j]? = some u → (wr.drew.alloc (.cells #[.slice ax 4 cx] 25)).cell? (Addr.add ⟨wr.heap.size, 0, none⟩ j) = some u := fun j u hj => cell_one_new wr.drew (.slice ax 4 cx) 25 j u hj
          have sizA : vs.length + 1 ≤ 1000000000 := by omega
          replace hN := Lib.hid hN
          replace hNd := Lib.hid hNd
          replace hNa := Lib.hid hNa
          replace hvs := Lib.hid hvs
          replace hve := Lib.hid hve
          replace hvl := Lib.hid hvl
          replace hsA := Lib.hid hsA
          replace Bal := Lib.hid Bal
          replace news := Lib.hid news
          replace ez := Lib.hid ez
          replace eax := Lib.hid eax
          replace ecx := Lib.hid ecx
          replace tk := Lib.hid tk
          go_wp2_with fail
          refine wp_region_held_drew (S := (fun _ => True)) (by kernel_rfl) (trivial) (fun hHeld => ?_)
          refine held_take (i := 0) (v := ?_) rfl (by kernel_rfl) (by kernel_rfl) (by kernel_rfl) (fun _ _ _ h => h) (Or.inl ⟨by rfl, ?_⟩) (by assumption) ?_
          rotate_left
          · intro w hSw; (try dsimp only at hSw); go_simp; try with_reducible rfl
          try simp only [Act.put, List.setIfInBounds_toArray, List.set_cons_zero, List.set_cons_succ]
          refine held_take (i := 1) (v := ?_) rfl (by kernel_rfl) (by kernel_rfl) (by kernel_rfl) (fun _ _ _ h => h) (Or.inl ⟨by rfl, ?_⟩) (by assumption) ?_
          rotate_left
          · intro w hSw; (try dsimp only at hSw); go_simp; try with_reducible rfl
          try simp only [Act.put, List.setIfInBounds_toArray, List.set_cons_zero, List.set_cons_succ]
          refine held_take (i := 2) (v := ?_) rfl (by kernel_rfl) (by kernel_rfl) (by kernel_rfl) (fun _ _ _ h => h) (Or.inl ⟨by rfl, ?_⟩) (by assumption) ?_
          rotate_left
          · intro w hSw; (try dsimp only at hSw); go_simp; try with_reducible rfl
          try simp only [Act.put, List.setIfInBounds_toArray, List.set_cons_zero, List.set_cons_succ]
          refine held_take (i := 3) (v := ?_) rfl (by kernel_rfl) (by kernel_rfl) (by kernel_rfl) (fun _ _ _ h => h) (Or.inl ⟨by rfl, ?_⟩) (by assumption) ?_
          rotate_left
          · intro w hSw; (try dsimp only at hSw); go_simp; try with_reducible rfl
          try simp only [Act.put, List.setIfInBounds_toArray, List.set_cons_zero, List.set_cons_succ]
          refine held_take (i := 5) (v := ?_) rfl (by kernel_rfl) (by kernel_rfl) (by kernel_rfl) (fun _ _ _ h => h) (Or.inl ⟨by rfl, ?_⟩) (by assumption) ?_
          rotate_left
          · intro w hSw; (try dsimp only at hSw); go_simp; try with_reducible rfl
          try simp only [Act.put, List.setIfInBounds_toArray, List.set_cons_zero, List.set_cons_succ]
          refine held_take (i := 6) (v := ?_) rfl (by kernel_rfl) (by kernel_rfl) (by kernel_rfl) (fun _ _ _ h => h) (Or.inl ⟨by rfl, ?_⟩) (by assumption) ?_
          rotate_left
          · intro w hSw; (try dsimp only at hSw); go_simp; try with_reducible rfl
          try simp only [Act.put, List.setIfInBounds_toArray, List.set_cons_zero, List.set_cons_succ]
          refine held_take (i := 7) (v := ?_) rfl (by kernel_rfl) (by kernel_rfl) (by kernel_rfl) (fun _ _ _ h => h) (Or.inl ⟨by rfl, ?_⟩) (by assumption) ?_
          rotate_left
          · intro w hSw; (try dsimp only at hSw); go_simp; try with_reducible rfl
          try simp only [Act.put, List.setIfInBounds_toArray, List.set_cons_zero, List.set_cons_succ]
          refine held_take (i := 8) (v := ?_) rfl (by kernel_rfl) (by kernel_rfl) (by kernel_rfl) (fun _ _ _ h => h) (Or.inl ⟨by rfl, ?_⟩) (by assumption) ?_
          rotate_left
          · intro w hSw; (try dsimp only at hSw); go_simp; try with_reducible rfl
          try simp only [Act.put, List.setIfInBounds_toArray, List.set_cons_zero, List.set_cons_succ]
          refine held_take (i := 9) (v := ?_) rfl (by kernel_rfl) (by kernel_rfl) (by kernel_rfl) (fun _ _ _ h => h) (Or.inl ⟨by rfl, ?_⟩) (by assumption) ?_
          rotate_left
          · intro w hSw; (try dsimp only at hSw); go_simp; try with_reducible rfl
          try simp only [Act.put, List.setIfInBounds_toArray, List.set_cons_zero, List.set_cons_succ]
          refine held_take (i := 10) (v := ?_) rfl (by kernel_rfl) (by kernel_rfl) (by kernel_rfl) (fun _ _ _ h => h) (Or.inl ⟨by rfl, ?_⟩) (by assumption) ?_
          rotate_left
          · intro w hSw; (try dsimp only at hSw); go_simp; try with_reducible rfl
          try simp only [Act.put, List.setIfInBounds_toArray, List.set_cons_zero, List.set_cons_succ]
          refine held_take (i := 11) (v := ?_) rfl (by kernel_rfl) (by kernel_rfl) (by kernel_rfl) (fun _ _ _ h => h) (Or.inl ⟨by rfl, ?_⟩) (by assumption) ?_
          rotate_left
          · intro w hSw; (try dsimp only at hSw); go_simp; try with_reducible rfl
          try simp only [Act.put, List.setIfInBounds_toArray, List.set_cons_zero, List.set_cons_succ]
          refine held_readies2 (i0 := 4) (i1 := 12) rfl rfl (by kernel_rfl) (fun K hK => ?_) (fun K hK => ?_)
          ·
            rw [if_pos (by rfl)]
            go_simp
            refine hK.out _ _ (trivial) (fun hHeldN => ?_)
            clear hHeld hK K
            have hHeld := hHeldN
            clear hHeldN
            try simp only [Act.put, List.setIfInBounds_toArray, List.set_cons_zero, List.set_cons_succ]
            refine held_ready (i := 12) rfl (by kernel_rfl) (fun K hK => ?_)
            rw [if_pos (by rfl)]
            go_simp
            refine hK.out _ _ (trivial) (fun hHeldN => ?_)
            clear hHeld hK K
            have hHeld := hHeldN
            clear hHeldN
            try simp only [Act.put, List.setIfInBounds_toArray, List.set_cons_zero, List.set_cons_succ]
            refine held_ready (i := 13) rfl (by kernel_rfl) (fun K hK => ?_)
            refine step_append_y rfl (.tmp 39) (.tmp 47) 44 rfl 25 Try.underlying44 (.slice none 0 0) 24 infoRow5 rfl (by decide) (w1.heap.size + 1) vw vs rfl hvs.out hsA.out ⟨wr.heap.size, 0, none⟩ 1 1 [.slice ax 4 cx] rfl rfl news.out (by intro u hu; simp at hu; subst hu; rfl) sizA ?_
            intro v9 w9 O9 G9 A9 R9
            have B9 := below_grown hvs.out hsA.out G9.out
            have nF := hNa.out.putW hvs.out hvl.out hve.out (.inl tk.out) B9 G9.out O9.out
            have row9 := (B9.block w1.heap.size (Nat.lt_succ_self _)).trans rowA
            have hf : w9.frozen? ⟨w1.heap.size, 0, none⟩ = false := frozen_of_row _ _ _ _ _ row9
            have hc9 : w9.cell? ⟨w1.heap.size, 0, none⟩ = some vw := (cell_of_row _ _ 0 _ _ _ row9).trans rfl
            obtain ⟨a9, n9, c9, rfl⟩ := O9.out.shape
            clear row9 B9 G9 A9 R9 O9
            replace nF := Lib.hid nF
            refine hK.out _ _ (trivial) (fun hHeldN => ?_)
            clear hHeld hK K
            have hHeld := hHeldN
            clear hHeldN
            try simp only [Act.put, List.setIfInBounds_toArray, List.set_cons_zero, List.set_cons_succ]
            refine held_take (i := 14) (v := ?_) rfl (by kernel_rfl) (by kernel_rfl) (by kernel_rfl) (fun _ _ _ h => h) (Or.inl ⟨by rfl, ?_⟩) (by assumption) ?_
            rotate_left
            · intro w hSw; (try dsimp only at hSw); go_simp; try with_reducible rfl
            try simp only [Act.put, List.setIfInBounds_toArray, List.set_cons_zero, List.set_cons_succ]
            refine held_take (i := 15) (v := ?_) rfl (by kernel_rfl) (by kernel_rfl) (by kernel_rfl) (fun _ _ _ h => h) (Or.inl ⟨by rfl, ?_⟩) (by assumption) ?_
            rotate_left
            · intro w hSw; (try dsimp only at hSw); go_simp; try with_reducible rfl
            try simp only [Act.put, List.setIfInBounds_toArray, List.set_cons_zero, List.set_cons_succ]
            refine held_ready (i := 16) rfl (by kernel_rfl) (fun K hK => ?_)
            go_simp
            refine hK.out _ _ (trivial) (fun hHeldN => ?_)
            clear hHeld hK K
            have hHeld := hHeldN
            clear hHeldN
            try simp only [Act.put, List.setIfInBounds_toArray, List.set_cons_zero, List.set_cons_succ]
            refine wpAnyH_done (by kernel_rfl) ?_ _
            clear hHeld
            go_wp2_with fail
            go_roundw
            case rel => exact ⟨q + 1, _, by omega, by go_num, nF.out⟩
            case measure => simp [intOf]; omega
          ·
            rw [if_pos (by rfl)]
            go_simp
            refine hK.out _ _ (trivial) (fun hHeldN => ?_)
            clear hHeld hK K
            have hHeld := hHeldN
            clear hHeldN
            try simp only [Act.put, List.setIfInBounds_toArray, List.set_cons_zero, List.set_cons_succ]
            refine held_ready (i := 4) rfl (by kernel_rfl) (fun K hK => ?_)
            rw [if_pos (by rfl)]
            go_simp
            refine hK.out _ _ (trivial) (fun hHeldN => ?_)
            clear hHeld hK K
            have hHeld := hHeldN
            clear hHeldN
            try simp only [Act.put, List.setIfInBounds_toArray, List.set_cons_zero, List.set_cons_succ]
            refine held_ready (i := 13) rfl (by kernel_rfl) (fun K hK => ?_)
            refine step_append_y rfl (.tmp 39) (.tmp 47) 44 rfl 25 Try.underlying44 (.slice none 0 0) 24 infoRow5 rfl (by decide) (w1.heap.size + 1) vw vs rfl hvs.out hsA.out ⟨wr.heap.size, 0, none⟩ 1 1 [.slice ax 4 cx] rfl rfl news.out (by intro u hu; simp at hu; subst hu; rfl) sizA ?_
            intro v9 w9 O9 G9 A9 R9
            have B9 := below_grown hvs.out hsA.out G9.out
            have nF := hNa.out.putW hvs.out hvl.out hve.out (.inl tk.out) B9 G9.out O9.out
            have row9 := (B9.block w1.heap.size (Nat.lt_succ_self _)).trans rowA
            have hf : w9.frozen? ⟨w1.heap.size, 0, none⟩ = false := frozen_of_row _ _ _ _ _ row9
            have hc9 : w9.cell? ⟨w1.heap.size, 0, none⟩ = some vw := (cell_of_row _ _ 0 _ _ _ row9).trans rfl
            obtain ⟨a9, n9, c9, rfl⟩ := O9.out.shape
            clear row9 B9 G9 A9 R9 O9
            replace nF := Lib.hid nF
            refine hK.out _ _ (trivial) (fun hHeldN => ?_)
            clear hHeld hK K
            have hHeld := hHeldN
            clear hHeldN
            try simp only [Act.put, List.setIfInBounds_toArray, List.set_cons_zero, List.set_cons_succ]
            refine held_take (i := 14) (v := ?_) rfl (by kernel_rfl) (by kernel_rfl) (by kernel_rfl) (fun _ _ _ h => h) (Or.inl ⟨by rfl, ?_⟩) (by assumption) ?_
            rotate_left
            · intro w hSw; (try dsimp only at hSw); go_simp; try with_reducible rfl
            try simp only [Act.put, List.setIfInBounds_toArray, List.set_cons_zero, List.set_cons_succ]
            refine held_take (i := 15) (v := ?_) rfl (by kernel_rfl) (by kernel_rfl) (by kernel_rfl) (fun _ _ _ h => h) (Or.inl ⟨by rfl, ?_⟩) (by assumption) ?_
            rotate_left
            · intro w hSw; (try dsimp only at hSw); go_simp; try with_reducible rfl
            try simp only [Act.put, List.setIfInBounds_toArray, List.set_cons_zero, List.set_cons_succ]
            refine held_ready (i := 16) rfl (by kernel_rfl) (fun K hK => ?_)
            go_simp
            refine hK.out _ _ (trivial) (fun hHeldN => ?_)
            clear hHeld hK K
            have hHeld := hHeldN
            clear hHeldN
            try simp only [Act.put, List.setIfInBounds_toArray, List.set_cons_zero, List.set_cons_succ]
            refine wpAnyH_done (by kernel_rfl) ?_ _
            clear hHeld
            go_wp2_with fail
            go_roundw
            case rel => exact ⟨q + 1, _, by omega, by go_num, nF.out⟩
            case measure => simp [intOf]; omega
        · obtain rfl : q = 8 := by omega
          simp only [show ((8 : Nat) : Int) = 8 from rfl]
          replace hN := Lib.hid hN
          go_wp2_with fail
          go_loopw [6] (fun iv wr => ∃ (i : Nat) (vw : Value), 8 ≤ i ∧ i ≤ 60 ∧ iv = .int .i64 i ∧ NewR w wr w1.heap.size vw (.slice a8 n8 c8) vk (byt key) 256 i) (fun iv _ => 60 - (intOf iv).toNat)
          case atStart => exact ⟨8, _, Nat.le_refl _, by decide, rfl, hN.out⟩
          case round =>
            clear hN vw
            obtain ⟨i, vw, h8, h60, rfl, hN⟩ := hrel
            by_cases hit : i < 60
            · skip
              obtain ⟨c, ec⟩ : ∃ c, c = w1.heap.size := ⟨_, rfl⟩
              rw [← ec] at hN ⊢
              obtain ⟨vs, hvs, hvl, hve⟩ := hN.words
              obtain ⟨aw, cw, rfl, cc1, _, _, _, cc5⟩ := hvs.form
              rw [hvl] at hN hvs cc1
              have cW : wr.cell? ⟨c, 0, none⟩ = some (.slice aw i cw) := hN.cell.1
              have cBx : wr.cell? ⟨c, 1, none⟩ = some (.slice a8 n8 c8) := hN.cell.2.1
              have hszc : c < wr.heap.size := lt_of_block hN.row
              obtain ⟨p, ep⟩ : ∃ p, p = i - 1 := ⟨_, rfl⟩
              obtain ⟨m, em⟩ : ∃ m, m = i - 8 := ⟨_, rfl⟩
              obtain ⟨vp, evp⟩ : ∃ x, vs[p]? = some x := ⟨vs[p]'(by omega), List.getElem?_eq_getElem _⟩
              obtain ⟨vm, evm⟩ : ∃ x, vs[m]? = some x := ⟨vs[m]'(by omega), List.getElem?_eq_getElem _⟩
              obtain ⟨g, rfl, cP, _⟩ := cc5 p _ evp
              obtain ⟨g', eg', cM, _⟩ := cc5 m _ evm
              obtain rfl : g = g' := by injection eg' with e; injection e
              have wP := hve p _ evp
              have wM := hve m _ evm
              have tP := wP.text hN.low
              have tM := wM.text hN.low
              obtain ⟨aP, cp, rfl, nP⟩ := tP.nth
              obtain ⟨aM, cm, rfl, nM⟩ := tM.nth
              rw [length_wd] at cP nP tP cM nM tM wP wM
              have f1 : (i : Int) - 1 = (p : Int) := by omega
              have f1' : IntKind.i64.wrap ((i : Int) - 1) = (p : Int) := by rw [IntWalk.i64_in _ (by omega)]; omega
              have f2 : (p : Int) < (i : Int) := by omega
              have f3 : (m : Int) < (i : Int) := by omega
              have f4 : (i : Int) - 8 = (m : Int) := by omega
              have f4' : IntKind.i64.wrap ((i : Int) - 8) = (m : Int) := by rw [IntWalk.i64_in _ (by omega)]; omega
              have f5 : IntKind.i64.wrap (m : Int) = (m : Int) := IntWalk.i64_in _ (by omega)
              have d60 : decide ((i : Int) < 60) = true := decide_eq_true (by omega)
              clear eg'
              replace hN := Lib.hid hN
              replace hvs := Lib.hid hvs
              replace hvl := Lib.hid hvl
              replace hve := Lib.hid hve
              replace evp := Lib.hid evp
              replace evm := Lib.hid evm
              replace wP := Lib.hid wP
              replace wM := Lib.hid wM
              replace tP := Lib.hid tP
              replace tM := Lib.hid tM
              replace nP := Lib.hid nP
              replace nM := Lib.hid nM
              replace ep := Lib.hid ep
              replace em := Lib.hid em
              replace ec := Lib.hid ec
              obtain ⟨r, er⟩ : ∃ r, r = i % 8 := ⟨_, rfl⟩
              have g8 : ((i : Int)).tmod 8 = (r : Int) := by rw [Int.tmod_eq_emod_of_nonneg (by omega)]; omega
              by_cases r0 : r = 0
              · subst r0
                obtain ⟨ob, oo, rfl, q0⟩ := nP.out 0 (by decide)
                have qs : ∀ k, k < 4 → wr.cell? ⟨ob, oo + k, none⟩ = some (.int .u8 (byt (wd (byt key) p) k : Int)) := fun k hk => by
                  obtain ⟨ob', oo', e, q⟩ := nP.out k hk
                  cases e
                  exact q
                have q1 := qs 1 (by decide)
                have q2 := qs 2 (by decide)
                have q3 := qs 3 (by decide)
                rw [Nat.add_zero] at q0
                clear qs
                have bz := box_zero (byt key) (i := i) er.symm
                rw [← ep.out] at bz
                have ly0 := byt_lt (wd_small hsb.out p) 0
                have ly1 := byt_lt (wd_small hsb.out p) 1
                have ly2 := byt_lt (wd_small hsb.out p) 2
                have ly3 := byt_lt (wd_small hsb.out p) 3
                generalize byt (wd (byt key) p) 0 = y0 at *
                generalize byt (wd (byt key) p) 1 = y1 at *
                generalize byt (wd (byt key) p) 2 = y2 at *
                generalize byt (wd (byt key) p) 3 = y3 at *
                have tl := litL (wx := wr.drew) (l := [y1, y2, y3, y0]) (by simp; omega) (by simp)
                have Bal : Below wr.heap.size wr (wr.drew.alloc (.cells (u8s [y1, y2, y3, y0]) 5)) := (Below.refl _ _).drew.alloc (Nat.le_refl _) _
                have hNa := hN.out.below Bal
                have cb := rboxed_core _ c _ hNa.cell.2.1 (hNa.box.text (bytesOf_lt fun j hj => gbox_lt hj)) _ [y1, y2, y3, y0] tl 4 rfl (by decide)
                rw [bz] at cb
                have k0 := (Bal.cell (block_lt_of_cell q0)).trans q0
                have k1 := (Bal.cell (block_lt_of_cell q1)).trans q1
                have k2 := (Bal.cell (block_lt_of_cell q2)).trans q2
                have k3 := (Bal.cell (block_lt_of_cell q3)).trans q3
                replace cb := Lib.hid cb
                replace tl := Lib.hid tl
                replace bz := Lib.hid bz
                replace ly0 := Lib.hid ly0
                replace ly1 := Lib.hid ly1
                replace ly2 := Lib.hid ly2
                replace ly3 := Lib.hid ly3
                replace Bal := Lib.hid Bal
                replace hNa := Lib.hid hNa
                replace er := Lib.hid er
                go_wp2_with fail
                refine wp_region_held_drew (S := (fun w' => w'.cell? ⟨ob, oo, none⟩ = some (.int .u8 (y0 : Int)) ∧ w'.cell? ⟨ob, oo + 1, none⟩ = some (.int .u8 (y1 : Int)) ∧ w'.cell? ⟨ob, oo + 2, none⟩ = some (.int .u8 (y2 : Int)) ∧ w'.cell? ⟨ob, oo + 3, none⟩ = some (.int .u8 (y3 : Int)))) (by kernel_rfl) (⟨q0, q1, q2, q3⟩) (fun hHeld => ?_)
                refine held_take (i := 0) (v := ?_) rfl (by kernel_rfl) (by kernel_rfl) (by kernel_rfl) (fun _ _ _ h => h) (Or.inl ⟨by rfl, ?_⟩) (by assumption) ?_
                rotate_left
                · intro w hSw; (try dsimp only at hSw); go_simp; try with_reducible rfl
                try simp only [Act.put, List.setIfInBounds_toArray, List.set_cons_zero, List.set_cons_succ]
                refine held_take (i := 1) (v := ?_) rfl (by kernel_rfl) (by kernel_rfl) (by kernel_rfl) (fun _ _ _ h => h) (Or.inl ⟨by rfl, ?_⟩) (by assumption) ?_
                rotate_left
                · intro w hSw; (try dsimp only at hSw); go_simp; try with_reducible rfl
                try simp only [Act.put, List.setIfInBounds_toArray, List.set_cons_zero, List.set_cons_succ]
                refine held_take (i := 2) (v := ?_) rfl (by kernel_rfl) (by kernel_rfl) (by kernel_rfl) (fun _ _ _ h => h) (Or.inl ⟨by rfl, ?_⟩) (by assumption) ?_
                rotate_left
                · intro w hSw; (try dsimp only at hSw); go_simp; try with_reducible rfl
                try simp only [Act.put, List.setIfInBounds_toArray, List.set_cons_zero, List.set_cons_succ]
                refine held_take (i := 3) (v := ?_) rfl (by kernel_rfl) (by kernel_rfl) (by kernel_rfl) (fun _ _ _ h => h) (Or.inl ⟨by rfl, ?_⟩) (by assumption) ?_
                rotate_left
                · intro w hSw; (try dsimp only at hSw); go_simp; try with_reducible rfl
                try simp only [Act.put, List.setIfInBounds_toArray, List.set_cons_zero, List.set_cons_succ]
                refine held_take (i := 4) (v := ?_) rfl (by kernel_rfl) (by kernel_rfl) (by kernel_rfl) (fun _ _ _ h => h) (Or.inl ⟨by rfl, ?_⟩) (by assumption) ?_
                rotate_left
                · intro w hSw; (try dsimp only at hSw); go_simp; try with_reducible rfl
                try simp only [Act.put, List.setIfInBounds_toArray, List.set_cons_zero, List.set_cons_succ]
                refine held_take (i := 5) (v := ?_) rfl (by kernel_rfl) (by kernel_rfl) (by kernel_rfl) (fun _ _ _ h => h) (Or.inl ⟨by rfl, ?_⟩) (by assumption) ?_
                rotate_left
                · intro w hSw; (try dsimp only at hSw); go_simp; try with_reducible rfl
                try simp only [Act.put, List.setIfInBounds_toArray, List.set_cons_zero, List.set_cons_succ]
                refine held_take (i := 6) (v := ?_) rfl (by kernel_rfl) (by kernel_rfl) (by kernel_rfl) (fun _ _ _ h => h) (Or.inl ⟨by rfl, ?_⟩) (by assumption) ?_
                rotate_left
                · intro w hSw; (try dsimp only at hSw); go_simp; try with_reducible rfl
                try simp only [Act.put, List.setIfInBounds_toArray, List.set_cons_zero, List.set_cons_succ]
                refine held_take (i := 7) (v := ?_) rfl (by kernel_rfl) (by kernel_rfl) (by kernel_rfl) (fun _ _ _ h => h) (Or.inl ⟨by rfl, ?_⟩) (by assumption) ?_
                rotate_left
                · intro w hSw; (try dsimp only at hSw); go_simp; try with_reducible rfl
                try simp only [Act.put, List.setIfInBounds_toArray, List.set_cons_zero, List.set_cons_succ]
                refine held_take (i := 8) (v := ?_) rfl (by kernel_rfl) (by kernel_rfl) (by kernel_rfl) (fun _ _ _ h => h) (Or.inl ⟨by rfl, ?_⟩) (by assumption) ?_
                rotate_left
                · intro w hSw; (try dsimp only at hSw); go_simp; try with_reducible rfl
                try simp only [Act.put, List.setIfInBounds_toArray, List.set_cons_zero, List.set_cons_succ]
                refine held_take (i := 9) (v := ?_) rfl (by kernel_rfl) (by kernel_rfl) (by kernel_rfl) (fun _ _ _ h => h) (Or.inl ⟨by rfl, ?_⟩) (by assumption) ?_
                rotate_left
                · intro w hSw; (try dsimp only at hSw); go_simp; try with_reducible rfl
                try simp only [Act.put, List.setIfInBounds_toArray, List.set_cons_zero, List.set_cons_succ]
                refine held_take (i := 10) (v := ?_) rfl (by kernel_rfl) (by kernel_rfl) (by kernel_rfl) (fun _ _ _ h => h) (Or.inl ⟨by rfl, ?_⟩) (by assumption) ?_
                rotate_left
                · intro w hSw; (try dsimp only at hSw); go_simp; try with_reducible rfl
                try simp only [Act.put, List.setIfInBounds_toArray, List.set_cons_zero, List.set_cons_succ]
                refine held_take (i := 11) (v := ?_) rfl (by kernel_rfl) (by kernel_rfl) (by kernel_rfl) (fun _ _ _ h => h) (Or.inl ⟨by rfl, ?_⟩) (by assumption) ?_
                rotate_left
                · intro w hSw; (try dsimp only at hSw); go_simp; try with_reducible rfl
                try simp only [Act.put, List.setIfInBounds_toArray, List.set_cons_zero, List.set_cons_succ]
                refine held_take (i := 12) (v := ?_) rfl (by kernel_rfl) (by kernel_rfl) (by kernel_rfl) (fun _ _ _ h => h) (Or.inl ⟨by rfl, ?_⟩) (by assumption) ?_
                rotate_left
                · intro w hSw; (try dsimp only at hSw); go_simp; try with_reducible rfl
                try simp only [Act.put, List.setIfInBounds_toArray, List.set_cons_zero, List.set_cons_succ]
                refine held_ready (i := 13) rfl (by kernel_rfl) (fun K hK => ?_)
                rw [if_pos (by rfl)]
                go_simp
                refine hK.out _ _ (⟨k0, k1, k2, k3⟩) (fun hHeldN => ?_)
                clear hHeld hK K
                have hHeld := hHeldN
                clear hHeldN
                try simp only [Act.put, List.setIfInBounds_toArray, List.set_cons_zero, List.set_cons_succ]
                refine held_ready (i := 14) rfl (by kernel_rfl) (fun K hK => ?_)
                go_simp
                refine cb.out.mono ?_
                rintro e w3 ⟨v3, rfl, o3, B3⟩
                have B3z := Bal.out.trans (B3.mono Bal.out.size)
                refine hK.out _ _ (⟨(B3.cell (block_lt_of_cell k0)).trans k0, (B3.cell (block_lt_of_cell k1)).trans k1, (B3.cell (block_lt_of_cell k2)).trans k2, (B3.cell (block_lt_of_cell k3)).trans k3⟩) (fun hHeldN => ?_)
                clear hHeld hK K
                have hHeld := hHeldN
                clear hHeldN
                try simp only [Act.put, List.setIfInBounds_toArray, List.set_cons_zero, List.set_cons_succ]
                refine held_take (i := 15) (v := ?_) rfl (by kernel_rfl) (by kernel_rfl) (by kernel_rfl) (fun _ _ _ h => h) (Or.inl ⟨by rfl, ?_⟩) (by assumption) ?_
                rotate_left
                · intro w hSw; (try dsimp only at hSw); go_simp; try with_reducible rfl
                try simp only [Act.put, List.setIfInBounds_toArray, List.set_cons_zero, List.set_cons_succ]
                refine wpAnyH_done (by kernel_rfl) ?_ _
                clear hHeld
                clear k0 k1 k2 k3 q0 q1 q2 q3 cb tl bz
                have o3' : Own w3 wr.heap.size 5 v3 (u8l (bytesOf (boxW (wordsOf (byt key)) i) 4)) := o3.weaken (by simp)
                have lb4 : (u8l (bytesOf (boxW (wordsOf (byt key)) i) 4)).length = 4 := by simp [u8l, length_bytesOf]
                obtain ⟨a3, cp3, rfl, _, _, _, hb3, cl3⟩ := o3'.form
                obtain ⟨g3, rfl, cz, fz⟩ := cl3 0 (.int .u8 (boxW (wordsOf (byt key)) i 0 : Int)) (by simp [u8l, bytesOf])
                have hg3 := hb3 g3 0 rfl
                rw [lb4] at o3' ⊢
                have l1 : boxW (wordsOf (byt key)) i 0 < 256 := boxW_lt (words_lt hsb.out 60) i 0
                have l2 : gpow 2 (i / 8 - 1) < 256 := gpow_lt _ (by decide)
                have ex := u8_xor_nat _ _ l1 l2
                obtain ⟨d8, hd8⟩ : ∃ d, d = i / 8 - 1 := ⟨_, rfl⟩
                obtain ⟨e8, he8⟩ : ∃ d, d = i / 8 := ⟨_, rfl⟩
                have f9 : IntKind.i64.wrap ((i : Int) / 8) = (e8 : Int) := by rw [IntWalk.i64_in _ (by omega)]; omega
                have f12 : IntKind.i64.wrap ((e8 : Int) - 1) = (d8 : Int) := by rw [IntWalk.i64_in _ (by omega)]; omega
                have cp := rpower_any 2 d8 w3.drew (by decide) (by omega)
                rw [rpow_two (by omega)] at cp
                simp only [show ((2 : Nat) : Int) = 2 from rfl] at cp
                have nS := (o3'.drew).setU (i := 0) (x := boxW (wordsOf (byt key)) i 0 ^^^ gpow 2 (i / 8 - 1)) (length_bytesOf _ _).symm
                rw [pow_bytes _ er.out.symm] at nS
                rw [← hd8] at ex nS
                have BS : Below wr.heap.size wr (w3.drew.setCell ⟨g3, 0, none⟩ (.int .u8 ((boxW (wordsOf (byt key)) i 0 ^^^ gpow 2 d8 : Nat) : Int))) := B3z.drew.setCell (p := ⟨g3, 0, none⟩) hg3 _
                have t7 := nS.text (bytesOf_lt fun k hk => powW_lt (words_lt hsb.out 60) i k)
                generalize boxW (wordsOf (byt key)) i 0 ^^^ gpow 2 d8 = y at *
                generalize boxW (wordsOf (byt key)) i 0 = u at *
                generalize gpow 2 d8 = z at *
                clear o3 o3' B3 B3z hb3 cl3 l1 l2 nS lb4
                replace BS := Lib.hid BS
                replace t7 := Lib.hid t7
                replace hd8 := Lib.hid hd8
                replace he8 := Lib.hid he8
                replace hg3 := Lib.hid hg3
                replace cp := Lib.hid cp
                go_wp2_with fail
                apply onceW (R := fun wq => wq = w3.drew)
                case tree =>
                  intro leaf
                  refine wp_region_held_drew (S := (fun _ => True)) (by kernel_rfl) (trivial) (fun hHeld => ?_)
                  refine held_take (i := 0) (v := ?_) rfl (by kernel_rfl) (by kernel_rfl) (by kernel_rfl) (fun _ _ _ h => h) (Or.inl ⟨by rfl, ?_⟩) (by assumption) ?_
                  rotate_left
                  · intro w hSw; (try dsimp only at hSw); go_simp; try with_reducible rfl
                  try simp only [Act.put, List.setIfInBounds_toArray, List.set_cons_zero, List.set_cons_succ]
                  refine held_take (i := 1) (v := ?_) rfl (by kernel_rfl) (by kernel_rfl) (by kernel_rfl) (fun _ _ _ h => h) (Or.inl ⟨by rfl, ?_⟩) (by assumption) ?_
                  rotate_left
                  · intro w hSw; (try dsimp only at hSw); go_simp; try with_reducible rfl
                  try simp only [Act.put, List.setIfInBounds_toArray, List.set_cons_zero, List.set_cons_succ]
                  refine held_take (i := 2) (v := ?_) rfl (by kernel_rfl) (by kernel_rfl) (by kernel_rfl) (fun _ _ _ h => h) (Or.inl ⟨by rfl, ?_⟩) (by assumption) ?_
                  rotate_left
                  · intro w hSw; (try dsimp only at hSw); go_simp; try with_reducible rfl
                  try simp only [Act.put, List.setIfInBounds_toArray, List.set_cons_zero, List.set_cons_succ]
                  refine held_take (i := 4) (v := ?_) rfl (by kernel_rfl) (by kernel_rfl) (by kernel_rfl) (fun _ _ _ h => h) (Or.inl ⟨by rfl, ?_⟩) (by assumption) ?_
                  rotate_left
                  · intro w hSw; (try dsimp only at hSw); go_simp; try with_reducible rfl
                  try simp only [Act.put, List.setIfInBounds_toArray, List.set_cons_zero, List.set_cons_succ]
                  refine held_take (i := 5) (v := ?_) rfl (by kernel_rfl) (by kernel_rfl) (by kernel_rfl) (fun _ _ _ h => h) (Or.inl ⟨by rfl, ?_⟩) (by assumption) ?_
                  rotate_left
                  · intro w hSw; (try dsimp only at hSw); go_simp; try with_reducible rfl
                  try simp only [Act.put, List.setIfInBounds_toArray, List.set_cons_zero, List.set_cons_succ]
                  refine held_take (i := 6) (v := ?_) rfl (by kernel_rfl) (by kernel_rfl) (by kernel_rfl) (fun _ _ _ h => h) (Or.inl ⟨by rfl, ?_⟩) (by assumption) ?_
                  rotate_left
                  · intro w hSw; (try dsimp only at hSw); go_simp; try with_reducible rfl
                  try simp only [Act.put, List.setIfInBounds_toArray, List.set_cons_zero, List.set_cons_succ]
                  refine held_readies2 (i0 := 3) (i1 := 7) rfl rfl (by kernel_rfl) (fun K hK => ?_) (fun K hK => ?_)
                  ·
                    rw [if_pos (by rfl)]
                    go_simp
                    refine hK.out _ _ (trivial) (fun hHeldN => ?_)
                    clear hHeld hK K
                    have hHeld := hHeldN
                    clear hHeldN
                    try simp only [Act.put, List.setIfInBounds_toArray, List.set_cons_zero, List.set_cons_succ]
                    refine held_ready (i := 7) rfl (by kernel_rfl) (fun K hK => ?_)
                    go_simp
                    refine cp.out.mono ?_
                    rintro e w4 ⟨rfl, rfl⟩
                    refine hK.out _ _ (trivial) (fun hHeldN => ?_)
                    clear hHeld hK K
                    have hHeld := hHeldN
                    clear hHeldN
                    try simp only [Act.put, List.setIfInBounds_toArray, List.set_cons_zero, List.set_cons_succ]
                    exact leaf w3.drew rfl
                  ·
                    go_simp
                    refine cp.out.mono ?_
                    rintro e w4 ⟨rfl, rfl⟩
                    refine hK.out _ _ (trivial) (fun hHeldN => ?_)
                    clear hHeld hK K
                    have hHeld := hHeldN
                    clear hHeldN
                    try simp only [Act.put, List.setIfInBounds_toArray, List.set_cons_zero, List.set_cons_succ]
                    refine held_ready (i := 3) rfl (by kernel_rfl) (fun K hK => ?_)
                    rw [if_pos (by rfl)]
                    go_simp
                    refine hK.out _ _ (trivial) (fun hHeldN => ?_)
                    clear hHeld hK K
                    have hHeld := hHeldN
                    clear hHeldN
                    try simp only [Act.put, List.setIfInBounds_toArray, List.set_cons_zero, List.set_cons_succ]
                    exact leaf w3.drew rfl
                case leaf =>
                  rintro wq hwq
                  have hHeld : (fun (_ : World) => True) wq := trivial
                  change wpAnyH _ _ _ _ _ _ _ _ _
                  refine held_take (i := 8) (v := ?_) rfl (by kernel_rfl) (by kernel_rfl) (by kernel_rfl) (fun _ _ _ h => h) (Or.inl ⟨by rfl, ?_⟩) (by assumption) ?_
                  rotate_left
                  · intro w hSw; (try dsimp only at hSw); go_simp; try with_reducible rfl
                  try simp only [Act.put, List.setIfInBounds_toArray, List.set_cons_zero, List.set_cons_succ]
                  refine held_take (i := 9) (v := ?_) rfl (by kernel_rfl) (by kernel_rfl) (by kernel_rfl) (fun _ _ _ h => h) (Or.inl ⟨by rfl, ?_⟩) (by assumption) ?_
                  rotate_left
                  · intro w hSw; (try dsimp only at hSw); go_simp; try with_reducible rfl
                  try simp only [Act.put, List.setIfInBounds_toArray, List.set_cons_zero, List.set_cons_succ]
                  refine held_ready (i := 10) rfl (by kernel_rfl) (fun K hK => ?_)
                  go_simp
                  refine hK.out _ _ (trivial) (fun hHeldN => ?_)
                  clear hHeld hK K
                  have hHeld := hHeldN
                  clear hHeldN
                  try simp only [Act.put, List.setIfInBounds_toArray, List.set_cons_zero, List.set_cons_succ]
                  refine wpAnyH_done (by kernel_rfl) ?_ _
                  clear hHeld
                  obtain ⟨wz, hwz⟩ : ∃ wz, wz = (w3.setCell ⟨g3, 0, none⟩ (.int .u8 (y : Int))).drew := ⟨_, rfl⟩
                  have Bz : Hid (Below wr.heap.size wr wz) := Lib.hid (by rw [hwz]; exact BS.out)
                  replace t7 := Lib.hid (show TextAt wz _ _ by rw [hwz]; exact t7.out)
                  rw [← hwz]
                  clear hwz BS cp cz fz ex f9 f12 g8
                  have hNz := hN.out.below Bz.out
                  have hNd := hNz.below (w' := wz.drew) (Below.refl _ _).drew
                  have Bd := Bz.out.drew
                  have cWz := hNz.cell.1
                  have cMz := (Bz.out.cell (block_lt_of_cell cM)).trans cM
                  have cx := rxored_any wz.drew _ _ (wd (byt key) m) (bytesOf (powW (wordsOf (byt key)) i) 4) (tM.out.below Bd) (t7.out.below (Below.refl _ _).drew) 4 (length_wd _ _) (by simp [length_bytesOf]) (by decide)
                  have hsz2 := lt_of_block hNz.row
                  rw [em.out, wd_hi _ (by omega) hit] at cx
                  replace hNz := Lib.hid hNz
                  replace hNd := Lib.hid hNd
                  replace Bd := Lib.hid Bd
                  replace cx := Lib.hid cx
                  go_wp2_with fail
                  apply onceV (R := fun a3 n3 c3 w3 => Hid (Own w3 wz.drew.heap.size 5 (.slice a3 n3 c3) (u8l (wd (byt key) i))) ∧ Hid (Below wr.heap.size wr w3) ∧ Hid (NewR w w3 c (.slice (some ⟨g, 0, none⟩) i cw) (.slice a8 n8 c8) vk (byt key) 256 i))
                  case tree =>
                    intro leaf
                    refine wp_region_held_drew (S := (fun _ => True)) (by kernel_rfl) (trivial) (fun hHeld => ?_)
                    refine held_take (i := 0) (v := ?_) rfl (by kernel_rfl) (by kernel_rfl) (by kernel_rfl) (fun _ _ _ h => h) (Or.inl ⟨by rfl, ?_⟩) (by assumption) ?_
                    rotate_left
                    · intro w hSw; (try dsimp only at hSw); go_simp; try with_reducible rfl
                    try simp only [Act.put, List.setIfInBounds_toArray, List.set_cons_zero, List.set_cons_succ]
                    refine held_take (i := 1) (v := ?_) rfl (by kernel_rfl) (by kernel_rfl) (by kernel_rfl) (fun _ _ _ h => h) (Or.inl ⟨by rfl, ?_⟩) (by assumption) ?_
                    rotate_left
                    · intro w hSw; (try dsimp only at hSw); go_simp; try with_reducible rfl
                    try simp only [Act.put, List.setIfInBounds_toArray, List.set_cons_zero, List.set_cons_succ]
                    refine held_take (i := 2) (v := ?_) rfl (by kernel_rfl) (by kernel_rfl) (by kernel_rfl) (fun _ _ _ h => h) (Or.inl ⟨by rfl, ?_⟩) (by assumption) ?_
                    rotate_left
                    · intro w hSw; (try dsimp only at hSw); go_simp; try with_reducible rfl
                    try simp only [Act.put, List.setIfInBounds_toArray, List.set_cons_zero, List.set_cons_succ]
                    refine held_take (i := 3) (v := ?_) rfl (by kernel_rfl) (by kernel_rfl) (by kernel_rfl) (fun _ _ _ h => h) (Or.inl ⟨by rfl, ?_⟩) (by assumption) ?_
                    rotate_left
                    · intro w hSw; (try dsimp only at hSw); go_simp; try with_reducible rfl
                    try simp only [Act.put, List.setIfInBounds_toArray, List.set_cons_zero, List.set_cons_succ]
                    refine held_take (i := 5) (v := ?_) rfl (by kernel_rfl) (by kernel_rfl) (by kernel_rfl) (fun _ _ _ h => h) (Or.inl ⟨by rfl, ?_⟩) (by assumption) ?_
                    rotate_left
                    · intro w hSw; (try dsimp only at hSw); go_simp; try with_reducible rfl
                    try simp only [Act.put, List.setIfInBounds_toArray, List.set_cons_zero, List.set_cons_succ]
                    refine held_take (i := 6) (v := ?_) rfl (by kernel_rfl) (by kernel_rfl) (by kernel_rfl) (fun _ _ _ h => h) (Or.inl ⟨by rfl, ?_⟩) (by assumption) ?_
                    rotate_left
                    · intro w hSw; (try dsimp only at hSw); go_simp; try with_reducible rfl
                    try simp only [Act.put, List.setIfInBounds_toArray, List.set_cons_zero, List.set_cons_succ]
                    refine held_take (i := 7) (v := ?_) rfl (by kernel_rfl) (by kernel_rfl) (by kernel_rfl) (fun _ _ _ h => h) (Or.inl ⟨by rfl, ?_⟩) (by assumption) ?_
                    rotate_left
                    · intro w hSw; (try dsimp only at hSw); go_simp; try with_reducible rfl
                    try simp only [Act.put, List.setIfInBounds_toArray, List.set_cons_zero, List.set_cons_succ]
                    refine held_take (i := 9) (v := ?_) rfl (by kernel_rfl) (by kernel_rfl) (by kernel_rfl) (fun _ _ _ h => h) (Or.inl ⟨by rfl, ?_⟩) (by assumption) ?_
                    rotate_left
                    · intro w hSw; (try dsimp only at hSw); go_simp; try with_reducible rfl
                    try simp only [Act.put, List.setIfInBounds_toArray, List.set_cons_zero, List.set_cons_succ]
                    refine held_take (i := 10) (v := ?_) rfl (by kernel_rfl) (by kernel_rfl) (by kernel_rfl) (fun _ _ _ h => h) (Or.inl ⟨by rfl, ?_⟩) (by assumption) ?_
                    rotate_left
                    · intro w hSw; (try dsimp only at hSw); go_simp; try with_reducible rfl
                    try simp only [Act.put, List.setIfInBounds_toArray, List.set_cons_zero, List.set_cons_succ]
                    refine held_take (i := 13) (v := ?_) rfl (by kernel_rfl) (by kernel_rfl) (by kernel_rfl) (fun _ _ _ h => h) (Or.inl ⟨by rfl, ?_⟩) (by assumption) ?_
                    rotate_left
                    · intro w hSw; (try dsimp only at hSw); go_simp; try with_reducible rfl
                    try simp only [Act.put, List.setIfInBounds_toArray, List.set_cons_zero, List.set_cons_succ]
                    refine held_readies2 (i0 := 4) (i1 := 8) rfl rfl (by kernel_rfl) (fun K hK => ?_) (fun K hK => ?_)
                    ·
                      rw [if_pos (by rfl)]
                      go_simp
                      refine hK.out _ _ (trivial) (fun hHeldN => ?_)
                      clear hHeld hK K
                      have hHeld := hHeldN
                      clear hHeldN
                      try simp only [Act.put, List.setIfInBounds_toArray, List.set_cons_zero, List.set_cons_succ]
                      refine held_ready (i := 8) rfl (by kernel_rfl) (fun K hK => ?_)
                      rw [if_pos (by rfl)]
                      go_simp
                      refine hK.out _ _ (trivial) (fun hHeldN => ?_)
                      clear hHeld hK K
                      have hHeld := hHeldN
                      clear hHeldN
                      try simp only [Act.put, List.setIfInBounds_toArray, List.set_cons_zero, List.set_cons_succ]
                      refine held_take (i := 11) (v := ?_) rfl (by kernel_rfl) (by kernel_rfl) (by kernel_rfl) (fun _ _ _ h => h) (Or.inl ⟨by rfl, ?_⟩) (by assumption) ?_
                      rotate_left
                      · intro w hSw; (try dsimp only at hSw); go_simp; try with_reducible rfl
                      try simp only [Act.put, List.setIfInBounds_toArray, List.set_cons_zero, List.set_cons_succ]
                      refine held_ready (i := 12) rfl (by kernel_rfl) (fun K hK => ?_)
                      rw [if_pos (by rfl)]
                      go_simp
                      refine hK.out _ _ (trivial) (fun hHeldN => ?_)
                      clear hHeld hK K
                      have hHeld := hHeldN
                      clear hHeldN
                      try simp only [Act.put, List.setIfInBounds_toArray, List.set_cons_zero, List.set_cons_succ]
                      refine held_ready (i := 14) rfl (by kernel_rfl) (fun K hK => ?_)
                      go_simp
                      refine cx.out.mono ?_
                      rintro e w3 ⟨v3, rfl, o3, B3⟩
                      have hN3 := hNd.out.below B3
                      have c3W := hN3.cell.1
                      have hs3 := lt_of_block hN3.row
                      have B3z := Bd.out.trans (B3.mono Bd.out.size)
                      obtain ⟨a3, n3, c3, rfl⟩ := o3.shape
                      replace o3 := Lib.hid o3
                      replace hN3 := Lib.hid hN3
                      replace B3 := Lib.hid B3
                      replace B3z := Lib.hid B3z
                      refine hK.out _ _ (trivial) (fun hHeldN => ?_)
                      clear hHeld hK K
                      have hHeld := hHeldN
                      clear hHeldN
                      try simp only [Act.put, List.setIfInBounds_toArray, List.set_cons_zero, List.set_cons_succ]
                      refine held_ready (i := 15) rfl (by kernel_rfl) (fun K hK => ?_)
                      rw [if_pos (by rfl)]
                      go_simp
                      refine hK.out _ _ (trivial) (fun hHeldN => ?_)
                      clear hHeld hK K
                      have hHeld := hHeldN
                      clear hHeldN
                      try simp only [Act.put, List.setIfInBounds_toArray, List.set_cons_zero, List.set_cons_succ]
                      exact leaf a3 n3 c3 w3 ⟨o3, B3z, hN3⟩
                    ·
                      rw [if_pos (by rfl)]
                      go_simp
                      refine hK.out _ _ (trivial) (fun hHeldN => ?_)
                      clear hHeld hK K
                      have hHeld := hHeldN
                      clear hHeldN
                      try simp only [Act.put, List.setIfInBounds_toArray, List.set_cons_zero, List.set_cons_succ]
                      refine held_take (i := 11) (v := ?_) rfl (by kernel_rfl) (by kernel_rfl) (by kernel_rfl) (fun _ _ _ h => h) (Or.inl ⟨by rfl, ?_⟩) (by assumption) ?_
                      rotate_left
                      · intro w hSw; (try dsimp only at hSw); go_simp; try with_reducible rfl
                      try simp only [Act.put, List.setIfInBounds_toArray, List.set_cons_zero, List.set_cons_succ]
                      refine held_readies2 (i0 := 4) (i1 := 12) rfl rfl (by kernel_rfl) (fun K hK => ?_) (fun K hK => ?_)
                      ·
                        rw [if_pos (by rfl)]
                        go_simp
                        refine hK.out _ _ (trivial) (fun hHeldN => ?_)
                        clear hHeld hK K
                        have hHeld := hHeldN
                        clear hHeldN
                        try simp only [Act.put, List.setIfInBounds_toArray, List.set_cons_zero, List.set_cons_succ]
                        refine held_ready (i := 12) rfl (by kernel_rfl) (fun K hK => ?_)
                        rw [if_pos (by rfl)]
                        go_simp
                        refine hK.out _ _ (trivial) (fun hHeldN => ?_)
                        clear hHeld hK K
                        have hHeld := hHeldN
                        clear hHeldN
                        try simp only [Act.put, List.setIfInBounds_toArray, List.set_cons_zero, List.set_cons_succ]
                        refine held_ready (i := 14) rfl (by kernel_rfl) (fun K hK => ?_)
                        go_simp
                        refine cx.out.mono ?_
                        rintro e w3 ⟨v3, rfl, o3, B3⟩
                        have hN3 := hNd.out.below B3
                        have c3W := hN3.cell.1
                        have hs3 := lt_of_block hN3.row
                        have B3z := Bd.out.trans (B3.mono Bd.out.size)
                        obtain ⟨a3, n3, c3, rfl⟩ := o3.shape
                        replace o3 := Lib.hid o3
                        replace hN3 := Lib.hid hN3
                        replace B3 := Lib.hid B3
                        replace B3z := Lib.hid B3z
                        refine hK.out _ _ (trivial) (fun hHeldN => ?_)
                        clear hHeld hK K
                        have hHeld := hHeldN
                        clear hHeldN
                        try simp only [Act.put, List.setIfInBounds_toArray, List.set_cons_zero, List.set_cons_succ]
                        refine held_ready (i := 15) rfl (by kernel_rfl) (fun K hK => ?_)
                        rw [if_pos (by rfl)]
                        go_simp
                        refine hK.out _ _ (trivial) (fun hHeldN => ?_)
                        clear hHeld hK K
                        have hHeld := hHeldN
                        clear hHeldN
                        try simp only [Act.put, List.setIfInBounds_toArray, List.set_cons_zero, List.set_cons_succ]
                        exact leaf a3 n3 c3 w3 ⟨o3, B3z, hN3⟩
                      ·
                        rw [if_pos (by rfl)]
                        go_simp
                        refine hK.out _ _ (trivial) (fun hHeldN => ?_)
                        clear hHeld hK K
                        have hHeld := hHeldN
                        clear hHeldN
                        try simp only [Act.put, List.setIfInBounds_toArray, List.set_cons_zero, List.set_cons_succ]
                        refine held_readies2 (i0 := 4) (i1 := 14) rfl rfl (by kernel_rfl) (fun K hK => ?_) (fun K hK => ?_)
                        ·
                          rw [if_pos (by rfl)]
                          go_simp
                          refine hK.out _ _ (trivial) (fun hHeldN => ?_)
                          clear hHeld hK K
                          have hHeld := hHeldN
                          clear hHeldN
                          try simp only [Act.put, List.setIfInBounds_toArray, List.set_cons_zero, List.set_cons_succ]
                          refine held_ready (i := 14) rfl (by kernel_rfl) (fun K hK => ?_)
                          go_simp
                          refine cx.out.mono ?_
                          rintro e w3 ⟨v3, rfl, o3, B3⟩
                          have hN3 := hNd.out.below B3
                          have c3W := hN3.cell.1
                          have hs3 := lt_of_block hN3.row
                          have B3z := Bd.out.trans (B3.mono Bd.out.size)
                          obtain ⟨a3, n3, c3, rfl⟩ := o3.shape
                          replace o3 := Lib.hid o3
                          replace hN3 := Lib.hid hN3
                          replace B3 := Lib.hid B3
                          replace B3z := Lib.hid B3z
                          refine hK.out _ _ (trivial) (fun hHeldN => ?_)
                          clear hHeld hK K
                          have hHeld := hHeldN
                          clear hHeldN
                          try simp only [Act.put, List.setIfInBounds_toArray, List.set_cons_zero, List.set_cons_succ]
                          refine held_ready (i := 15) rfl (by kernel_rfl) (fun K hK => ?_)
                          rw [if_pos (by rfl)]
                          go_simp
                          refine hK.out _ _ (trivial) (fun hHeldN => ?_)
                          clear hHeld hK K
                          have hHeld := hHeldN
                          clear hHeldN
                          try simp only [Act.put, List.setIfInBounds_toArray, List.set_cons_zero, List.set_cons_succ]
                          exact leaf a3 n3 c3 w3 ⟨o3, B3z, hN3⟩
                        ·
                          go_simp
                          refine cx.out.mono ?_
                          rintro e w3 ⟨v3, rfl, o3, B3⟩
                          have hN3 := hNd.out.below B3
                          have c3W := hN3.cell.1
                          have hs3 := lt_of_block hN3.row
                          have B3z := Bd.out.trans (B3.mono Bd.out.size)
                          obtain ⟨a3, n3, c3, rfl⟩ := o3.shape
                          replace o3 := Lib.hid o3
                          replace hN3 := Lib.hid hN3
                          replace B3 := Lib.hid B3
                          replace B3z := Lib.hid B3z
                          refine hK.out _ _ (trivial) (fun hHeldN => ?_)
                          clear hHeld hK K
                          have hHeld := hHeldN
                          clear hHeldN
                          try simp only [Act.put, List.setIfInBounds_toArray, List.set_cons_zero, List.set_cons_succ]
                          refine held_readies2 (i0 := 4) (i1 := 15) rfl rfl (by kernel_rfl) (fun K hK => ?_) (fun K hK => ?_)
                          ·
                            rw [if_pos (by rfl)]
                            go_simp
                            refine hK.out _ _ (trivial) (fun hHeldN => ?_)
                            clear hHeld hK K
                            have hHeld := hHeldN
                            clear hHeldN
                            try simp only [Act.put, List.setIfInBounds_toArray, List.set_cons_zero, List.set_cons_succ]
                            refine held_ready (i := 15) rfl (by kernel_rfl) (fun K hK => ?_)
                            rw [if_pos (by rfl)]
                            go_simp
                            refine hK.out _ _ (trivial) (fun hHeldN => ?_)
                            clear hHeld hK K
                            have hHeld := hHeldN
                            clear hHeldN
                            try simp only [Act.put, List.setIfInBounds_toArray, List.set_cons_zero, List.set_cons_succ]
                            exact leaf a3 n3 c3 w3 ⟨o3, B3z, hN3⟩
                          ·
                            rw [if_pos (by rfl)]
                            go_simp
                            refine hK.out _ _ (trivial) (fun hHeldN => ?_)
                            clear hHeld hK K
                            have hHeld := hHeldN
                            clear hHeldN
                            try simp only [Act.put, List.setIfInBounds_toArray, List.set_cons_zero, List.set_cons_succ]
                            refine held_ready (i := 4) rfl (by kernel_rfl) (fun K hK => ?_)
                            rw [if_pos (by rfl)]
                            go_simp
                            refine hK.out _ _ (trivial) (fun hHeldN => ?_)
                            clear hHeld hK K
                            have hHeld := hHeldN
                            clear hHeldN
                            try simp only [Act.put, List.setIfInBounds_toArray, List.set_cons_zero, List.set_cons_succ]
                            exact leaf a3 n3 c3 w3 ⟨o3, B3z, hN3⟩
                  case leaf =>
                    rintro a3 n3 c3 w3 ⟨o3, B3z, hN3⟩
                    have hHeld : (fun (_ : World) => True) (w3.alloc (.cells #[.slice a3 n3 c3] 25)) := trivial
                    have Bal : Below w3.heap.size w3 (w3.alloc (.cells #[.slice a3 n3 c3] 25)) := (Below.refl _ _).alloc (Nat.le_refl _) _
                    have hNa := hN3.out.below Bal
                    have BA := B3z.out.trans (Bal.mono B3z.out.size)
                    have hvsA := hvs.out.below BA
                    have hveA := fun (j : Nat) (u : Value) (e : vs[j]? = some u) => (hve.out j u e).below BA
                    have rowA := hNa.row
                    have hsA : c + 1 ≤ (w3.alloc (.cells #[.slice a3 n3 c3] 25)).heap.size := lt_of_block rowA
                    have hu : Word w (w3.alloc (.cells #[.slice a3 n3 c3] 25)) c (.slice a3 n3 c3) (wd (byt key) i) := .inr ⟨(o3.out.weaken (show c + 1 ≤ wz.drew.heap.size from hsz2)).below Bal, wd_small hsb.out i⟩
                    have news : ∀ (j : Nat) (u : Value), [Value.slice a3 n3 c3][j]? = some u → (w3.alloc (.cells #[.slice a3 n3 c3] 25)).cell? (Addr.add ⟨w3.heap.size, 0, none⟩ j) = some u := fun j u hj => cell_one_new w3 (.slice a3 n3 c3) 25 j u hj
                    have sizA : vs.length + 1 ≤ 1000000000 := by have := hvl.out; omega
                    clear o3 B3z hN3 BA Bal
                    replace hNa := Lib.hid hNa
                    replace hvsA := Lib.hid hvsA
                    replace hveA := Lib.hid hveA
                    replace hsA := Lib.hid hsA
                    replace hu := Lib.hid hu
                    replace news := Lib.hid news
                    change wpAnyH _ _ _ _ _ _ _ _ _
                    refine held_ready (i := 16) rfl (by kernel_rfl) (fun K hK => ?_)
                    refine step_append_y rfl (.tmp 101) (.tmp 112) 44 rfl 25 Try.underlying44 (.slice none 0 0) 24 infoRow5 rfl (by decide) (c + 1) (.slice (some ⟨g, 0, none⟩) i cw) vs rfl hvsA.out hsA.out ⟨w3.heap.size, 0, none⟩ 1 1 [.slice a3 n3 c3] rfl rfl news.out (by intro u hu; simp at hu; subst hu; rfl) sizA ?_
                    intro v9 w9 O9 G9 A9 R9
                    have B9 := below_grown hvsA.out hsA.out G9.out
                    have nF := hNa.out.putW hvsA.out hvl.out hveA.out hu.out B9 G9.out O9.out
                    have row9 := (B9.block c (Nat.lt_succ_self _)).trans rowA
                    have hf : w9.frozen? ⟨c, 0, none⟩ = false := frozen_of_row _ _ _ _ _ row9
                    have hc9 : w9.cell? ⟨c, 0, none⟩ = some (.slice (some ⟨g, 0, none⟩) i cw) := (cell_of_row _ _ 0 _ _ _ row9).trans rfl
                    obtain ⟨a9, n9, c9, rfl⟩ := O9.out.shape
                    clear row9 B9 G9 A9 R9 O9
                    replace nF := Lib.hid nF
                    refine hK.out _ _ (trivial) (fun hHeldN => ?_)
                    clear hHeld hK K
                    have hHeld := hHeldN
                    clear hHeldN
                    try simp only [Act.put, List.setIfInBounds_toArray, List.set_cons_zero, List.set_cons_succ]
                    refine held_take (i := 17) (v := ?_) rfl (by kernel_rfl) (by kernel_rfl) (by kernel_rfl) (fun _ _ _ h => h) (Or.inl ⟨by rfl, ?_⟩) (by assumption) ?_
                    rotate_left
                    · intro w hSw; (try dsimp only at hSw); go_simp; try with_reducible rfl
                    try simp only [Act.put, List.setIfInBounds_toArray, List.set_cons_zero, List.set_cons_succ]
                    refine held_take (i := 18) (v := ?_) rfl (by kernel_rfl) (by kernel_rfl) (by kernel_rfl) (fun _ _ _ h => h) (Or.inl ⟨by rfl, ?_⟩) (by assumption) ?_
                    rotate_left
                    · intro w hSw; (try dsimp only at hSw); go_simp; try with_reducible rfl
                    try simp only [Act.put, List.setIfInBounds_toArray, List.set_cons_zero, List.set_cons_succ]
                    refine held_ready (i := 19) rfl (by kernel_rfl) (fun K hK => ?_)
                    go_simp
                    refine hK.out _ _ (trivial) (fun hHeldN => ?_)
                    clear hHeld hK K
                    have hHeld := hHeldN
                    clear hHeldN
                    try simp only [Act.put, List.setIfInBounds_toArray, List.set_cons_zero, List.set_cons_succ]
                    refine wpAnyH_done (by kernel_rfl) ?_ _
                    clear hHeld
                    go_wp2_with fail
                    go_roundw
                    case rel => exact ⟨i + 1, _, by omega, by omega, by go_num, nF.out⟩
                    case measure => simp [intOf]; omega
              · by_cases r4 : r = 4
                · subst r4
                  have cb := rboxed_core wr c _ cBx (hN.out.box.text (bytesOf_lt fun j hj => gbox_lt hj)) _ (wd (byt key) p) tP.out 4 (length_wd _ _) (by decide)
                  rw [ep.out, pow_four _ er.symm] at cb
                  replace cb := Lib.hid cb
                  replace er := Lib.hid er
                  go_wp2_with fail
                  refine cb.out.mono ?_
                  rintro e wz ⟨v7, rfl, o7, Bz⟩
                  have t7 := o7.text (bytesOf_lt fun k hk => powW_lt (words_lt hsb.out 60) i k)
                  clear cb o7
                  replace t7 := Lib.hid t7
                  replace Bz := Lib.hid Bz
                  go_wp2_with fail
                  have hNz := hN.out.below Bz.out
                  have hNd := hNz.below (w' := wz.drew) (Below.refl _ _).drew
                  have Bd := Bz.out.drew
                  have cWz := hNz.cell.1
                  have cMz := (Bz.out.cell (block_lt_of_cell cM)).trans cM
                  have cx := rxored_any wz.drew _ _ (wd (byt key) m) (bytesOf (powW (wordsOf (byt key)) i) 4) (tM.out.below Bd) (t7.out.below (Below.refl _ _).drew) 4 (length_wd _ _) (by simp [length_bytesOf]) (by decide)
                  have hsz2 := lt_of_block hNz.row
                  rw [em.out, wd_hi _ (by omega) hit] at cx
                  replace hNz := Lib.hid hNz
                  replace hNd := Lib.hid hNd
                  replace Bd := Lib.hid Bd
                  replace cx := Lib.hid cx
                  go_wp2_with fail
                  apply onceV (R := fun a3 n3 c3 w3 => Hid (Own w3 wz.drew.heap.size 5 (.slice a3 n3 c3) (u8l (wd (byt key) i))) ∧ Hid (Below wr.heap.size wr w3) ∧ Hid (NewR w w3 c (.slice (some ⟨g, 0, none⟩) i cw) (.slice a8 n8 c8) vk (byt key) 256 i))
                  case tree =>
                    intro leaf
                    refine wp_region_held_drew (S := (fun _ => True)) (by kernel_rfl) (trivial) (fun hHeld => ?_)
                    refine held_take (i := 0) (v := ?_) rfl (by kernel_rfl) (by kernel_rfl) (by kernel_rfl) (fun _ _ _ h => h) (Or.inl ⟨by rfl, ?_⟩) (by assumption) ?_
                    rotate_left
                    · intro w hSw; (try dsimp only at hSw); go_simp; try with_reducible rfl
                    try simp only [Act.put, List.setIfInBounds_toArray, List.set_cons_zero, List.set_cons_succ]
                    refine held_take (i := 1) (v := ?_) rfl (by kernel_rfl) (by kernel_rfl) (by kernel_rfl) (fun _ _ _ h => h) (Or.inl ⟨by rfl, ?_⟩) (by assumption) ?_
                    rotate_left
                    · intro w hSw; (try dsimp only at hSw); go_simp; try with_reducible rfl
                    try simp only [Act.put, List.setIfInBounds_toArray, List.set_cons_zero, List.set_cons_succ]
                    refine held_take (i := 2) (v := ?_) rfl (by kernel_rfl) (by kernel_rfl) (by kernel_rfl) (fun _ _ _ h => h) (Or.inl ⟨by rfl, ?_⟩) (by assumption) ?_
                    rotate_left
                    · intro w hSw; (try dsimp only at hSw); go_simp; try with_reducible rfl
                    try simp only [Act.put, List.setIfInBounds_toArray, List.set_cons_zero, List.set_cons_succ]
                    refine held_take (i := 3) (v := ?_) rfl (by kernel_rfl) (by kernel_rfl) (by kernel_rfl) (fun _ _ _ h => h) (Or.inl ⟨by rfl, ?_⟩) (by assumption) ?_
                    rotate_left
                    · intro w hSw; (try dsimp only at hSw); go_simp; try with_reducible rfl
                    try simp only [Act.put, List.setIfInBounds_toArray, List.set_cons_zero, List.set_cons_succ]
                    refine held_take (i := 5) (v := ?_) rfl (by kernel_rfl) (by kernel_rfl) (by kernel_rfl) (fun _ _ _ h => h) (Or.inl ⟨by rfl, ?_⟩) (by assumption) ?_
                    rotate_left
                    · intro w hSw; (try dsimp only at hSw); go_simp; try with_reducible rfl
                    try simp only [Act.put, List.setIfInBounds_toArray, List.set_cons_zero, List.set_cons_succ]
                    refine held_take (i := 6) (v := ?_) rfl (by kernel_rfl) (by kernel_rfl) (by kernel_rfl) (fun _ _ _ h => h) (Or.inl ⟨by rfl, ?_⟩) (by assumption) ?_
                    rotate_left
                    · intro w hSw; (try dsimp only at hSw); go_simp; try with_reducible rfl
                    try simp only [Act.put, List.setIfInBounds_toArray, List.set_cons_zero, List.set_cons_succ]
                    refine held_take (i := 7) (v := ?_) rfl (by kernel_rfl) (by kernel_rfl) (by kernel_rfl) (fun _ _ _ h => h) (Or.inl ⟨by rfl, ?_⟩) (by assumption) ?_
                    rotate_left
                    · intro w hSw; (try dsimp only at hSw); go_simp; try with_reducible rfl
                    try simp only [Act.put, List.setIfInBounds_toArray, List.set_cons_zero, List.set_cons_succ]
                    refine held_take (i := 9) (v := ?_) rfl (by kernel_rfl) (by kernel_rfl) (by kernel_rfl) (fun _ _ _ h => h) (Or.inl ⟨by rfl, ?_⟩) (by assumption) ?_
                    rotate_left
                    · intro w hSw; (try dsimp only at hSw); go_simp; try with_reducible rfl
                    try simp only [Act.put, List.setIfInBounds_toArray, List.set_cons_zero, List.set_cons_succ]
                    refine held_take (i := 10) (v := ?_) rfl (by kernel_rfl) (by kernel_rfl) (by kernel_rfl) (fun _ _ _ h => h) (Or.inl ⟨by rfl, ?_⟩) (by assumption) ?_
                    rotate_left
                    · intro w hSw; (try dsimp only at hSw); go_simp; try with_reducible rfl
                    try simp only [Act.put, List.setIfInBounds_toArray, List.set_cons_zero, List.set_cons_succ]
                    refine held_take (i := 13) (v := ?_) rfl (by kernel_rfl) (by kernel_rfl) (by kernel_rfl) (fun _ _ _ h => h) (Or.inl ⟨by rfl, ?_⟩) (by assumption) ?_
                    rotate_left
                    · intro w hSw; (try dsimp only at hSw); go_simp; try with_reducible rfl
                    try simp only [Act.put, List.setIfInBounds_toArray, List.set_cons_zero, List.set_cons_succ]
                    refine held_readies2 (i0 := 4) (i1 := 8) rfl rfl (by kernel_rfl) (fun K hK => ?_) (fun K hK => ?_)
                    ·
                      rw [if_pos (by rfl)]
                      go_simp
                      refine hK.out _ _ (trivial) (fun hHeldN => ?_)
                      clear hHeld hK K
                      have hHeld := hHeldN
                      clear hHeldN
                      try simp only [Act.put, List.setIfInBounds_toArray, List.set_cons_zero, List.set_cons_succ]
                      refine held_ready (i := 8) rfl (by kernel_rfl) (fun K hK => ?_)
                      rw [if_pos (by rfl)]
                      go_simp
                      refine hK.out _ _ (trivial) (fun hHeldN => ?_)
                      clear hHeld hK K
                      have hHeld := hHeldN
                      clear hHeldN
                      try simp only [Act.put, List.setIfInBounds_toArray, List.set_cons_zero, List.set_cons_succ]
                      refine held_take (i := 11) (v := ?_) rfl (by kernel_rfl) (by kernel_rfl) (by kernel_rfl) (fun _ _ _ h => h) (Or.inl ⟨by rfl, ?_⟩) (by assumption) ?_
                      rotate_left
                      · intro w hSw; (try dsimp only at hSw); go_simp; try with_reducible rfl
                      try simp only [Act.put, List.setIfInBounds_toArray, List.set_cons_zero, List.set_cons_succ]
                      refine held_ready (i := 12) rfl (by kernel_rfl) (fun K hK => ?_)
                      rw [if_pos (by rfl)]
                      go_simp
                      refine hK.out _ _ (trivial) (fun hHeldN => ?_)
                      clear hHeld hK K
                      have hHeld := hHeldN
                      clear hHeldN
                      try simp only [Act.put, List.setIfInBounds_toArray, List.set_cons_zero, List.set_cons_succ]
                      refine held_ready (i := 14) rfl (by kernel_rfl) (fun K hK => ?_)
                      go_simp
                      refine cx.out.mono ?_
                      rintro e w3 ⟨v3, rfl, o3, B3⟩
                      have hN3 := hNd.out.below B3
                      have c3W := hN3.cell.1
                      have hs3 := lt_of_block hN3.row
                      have B3z := Bd.out.trans (B3.mono Bd.out.size)
                      obtain ⟨a3, n3, c3, rfl⟩ := o3.shape
                      replace o3 := Lib.hid o3
                      replace hN3 := Lib.hid hN3
                      replace B3 := Lib.hid B3
                      replace B3z := Lib.hid B3z
                      refine hK.out _ _ (trivial) (fun hHeldN => ?_)
                      clear hHeld hK K
                      have hHeld := hHeldN
                      clear hHeldN
                      try simp only [Act.put, List.setIfInBounds_toArray, List.set_cons_zero, List.set_cons_succ]
                      refine held_ready (i := 15) rfl (by kernel_rfl) (fun K hK => ?_)
                      rw [if_pos (by rfl)]
                      go_simp
                      refine hK.out _ _ (trivial) (fun hHeldN => ?_)
                      clear hHeld hK K
                      have hHeld := hHeldN
                      clear hHeldN
                      try simp only [Act.put, List.setIfInBounds_toArray, List.set_cons_zero, List.set_cons_succ]
                      exact leaf a3 n3 c3 w3 ⟨o3, B3z, hN3⟩
                    ·
                      rw [if_pos (by rfl)]
                      go_simp
                      refine hK.out _ _ (trivial) (fun hHeldN => ?_)
                      clear hHeld hK K
                      have hHeld := hHeldN
                      clear hHeldN
                      try simp only [Act.put, List.setIfInBounds_toArray, List.set_cons_zero, List.set_cons_succ]
                      refine held_take (i := 11) (v := ?_) rfl (by kernel_rfl) (by kernel_rfl) (by kernel_rfl) (fun _ _ _ h => h) (Or.inl ⟨by rfl, ?_⟩) (by assumption) ?_
                      rotate_left
                      · intro w hSw; (try dsimp only at hSw); go_simp; try with_reducible rfl
                      try simp only [Act.put, List.setIfInBounds_toArray, List.set_cons_zero, List.set_cons_succ]
                      refine held_readies2 (i0 := 4) (i1 := 12) rfl rfl (by kernel_rfl) (fun K hK => ?_) (fun K hK => ?_)
                      ·
                        rw [if_pos (by rfl)]
                        go_simp
                        refine hK.out _ _ (trivial) (fun hHeldN => ?_)
                        clear hHeld hK K
                        have hHeld := hHeldN
                        clear hHeldN
                        try simp only [Act.put, List.setIfInBounds_toArray, List.set_cons_zero, List.set_cons_succ]
                        refine held_ready (i := 12) rfl (by kernel_rfl) (fun K hK => ?_)
                        rw [if_pos (by rfl)]
                        go_simp
                        refine hK.out _ _ (trivial) (fun hHeldN => ?_)
                        clear hHeld hK K
                        have hHeld := hHeldN
                        clear hHeldN
                        try simp only [Act.put, List.setIfInBounds_toArray, List.set_cons_zero, List.set_cons_succ]
                        refine held_ready (i := 14) rfl (by kernel_rfl) (fun K hK => ?_)
                        go_simp
                        refine cx.out.mono ?_
                        rintro e w3 ⟨v3, rfl, o3, B3⟩
                        have hN3 := hNd.out.below B3
                        have c3W := hN3.cell.1
                        have hs3 := lt_of_block hN3.row
                        have B3z := Bd.out.trans (B3.mono Bd.out.size)
                        obtain ⟨a3, n3, c3, rfl⟩ := o3.shape
                        replace o3 := Lib.hid o3
                        replace hN3 := Lib.hid hN3
                        replace B3 := Lib.hid B3
                        replace B3z := Lib.hid B3z
                        refine hK.out _ _ (trivial) (fun hHeldN => ?_)
                        clear hHeld hK K
                        have hHeld := hHeldN
                        clear hHeldN
                        try simp only [Act.put, List.setIfInBounds_toArray, List.set_cons_zero, List.set_cons_succ]
                        refine held_ready (i := 15) rfl (by kernel_rfl) (fun K hK => ?_)
                        rw [if_pos (by rfl)]
                        go_simp
                        refine hK.out _ _ (trivial) (fun hHeldN => ?_)
                        clear hHeld hK K
                        have hHeld := hHeldN
                        clear hHeldN
                        try simp only [Act.put, List.setIfInBounds_toArray, List.set_cons_zero, List.set_cons_succ]
                        exact leaf a3 n3 c3 w3 ⟨o3, B3z, hN3⟩
                      ·
                        rw [if_pos (by rfl)]
                        go_simp
                        refine hK.out _ _ (trivial) (fun hHeldN => ?_)
                        clear hHeld hK K
                        have hHeld := hHeldN
                        clear hHeldN
                        try simp only [Act.put, List.setIfInBounds_toArray, List.set_cons_zero, List.set_cons_succ]
                        refine held_readies2 (i0 := 4) (i1 := 14) rfl rfl (by kernel_rfl) (fun K hK => ?_) (fun K hK => ?_)
                        ·
                          rw [if_pos (by rfl)]
                          go_simp
                          refine hK.out _ _ (trivial) (fun hHeldN => ?_)
                          clear hHeld hK K
                          have hHeld := hHeldN
                          clear hHeldN
                          try simp only [Act.put, List.setIfInBounds_toArray, List.set_cons_zero, List.set_cons_succ]
                          refine held_ready (i := 14) rfl (by kernel_rfl) (fun K hK => ?_)
                          go_simp
                          refine cx.out.mono ?_
                          rintro e w3 ⟨v3, rfl, o3, B3⟩
                          have hN3 := hNd.out.below B3
                          have c3W := hN3.cell.1
                          have hs3 := lt_of_block hN3.row
                          have B3z := Bd.out.trans (B3.mono Bd.out.size)
                          obtain ⟨a3, n3, c3, rfl⟩ := o3.shape
                          replace o3 := Lib.hid o3
                          replace hN3 := Lib.hid hN3
                          replace B3 := Lib.hid B3
                          replace B3z := Lib.hid B3z
                          refine hK.out _ _ (trivial) (fun hHeldN => ?_)
                          clear hHeld hK K
                          have hHeld := hHeldN
                          clear hHeldN
                          try simp only [Act.put, List.setIfInBounds_toArray, List.set_cons_zero, List.set_cons_succ]
                          refine held_ready (i := 15) rfl (by kernel_rfl) (fun K hK => ?_)
                          rw [if_pos (by rfl)]
                          go_simp
                          refine hK.out _ _ (trivial) (fun hHeldN => ?_)
                          clear hHeld hK K
                          have hHeld := hHeldN
                          clear hHeldN
                          try simp only [Act.put, List.setIfInBounds_toArray, List.set_cons_zero, List.set_cons_succ]
                          exact leaf a3 n3 c3 w3 ⟨o3, B3z, hN3⟩
                        ·
                          go_simp
                          refine cx.out.mono ?_
                          rintro e w3 ⟨v3, rfl, o3, B3⟩
                          have hN3 := hNd.out.below B3
                          have c3W := hN3.cell.1
                          have hs3 := lt_of_block hN3.row
                          have B3z := Bd.out.trans (B3.mono Bd.out.size)
                          obtain ⟨a3, n3, c3, rfl⟩ := o3.shape
                          replace o3 := Lib.hid o3
                          replace hN3 := Lib.hid hN3
                          replace B3 := Lib.hid B3
                          replace B3z := Lib.hid B3z
                          refine hK.out _ _ (trivial) (fun hHeldN => ?_)
                          clear hHeld hK K
                          have hHeld := hHeldN
                          clear hHeldN
                          try simp only [Act.put, List.setIfInBounds_toArray, List.set_cons_zero, List.set_cons_succ]
                          refine held_readies2 (i0 := 4) (i1 := 15) rfl rfl (by kernel_rfl) (fun K hK => ?_) (fun K hK => ?_)
                          ·
                            rw [if_pos (by rfl)]
                            go_simp
                            refine hK.out _ _ (trivial) (fun hHeldN => ?_)
                            clear hHeld hK K
                            have hHeld := hHeldN
                            clear hHeldN
                            try simp only [Act.put, List.setIfInBounds_toArray, List.set_cons_zero, List.set_cons_succ]
                            refine held_ready (i := 15) rfl (by kernel_rfl) (fun K hK => ?_)
                            rw [if_pos (by rfl)]
                            go_simp
                            refine hK.out _ _ (trivial) (fun hHeldN => ?_)
                            clear hHeld hK K
                            have hHeld := hHeldN
                            clear hHeldN
                            try simp only [Act.put, List.setIfInBounds_toArray, List.set_cons_zero, List.set_cons_succ]
                            exact leaf a3 n3 c3 w3 ⟨o3, B3z, hN3⟩
                          ·
                            rw [if_pos (by rfl)]
                            go_simp
                            refine hK.out _ _ (trivial) (fun hHeldN => ?_)
                            clear hHeld hK K
                            have hHeld := hHeldN
                            clear hHeldN
                            try simp only [Act.put, List.setIfInBounds_toArray, List.set_cons_zero, List.set_cons_succ]
                            refine held_ready (i := 4) rfl (by kernel_rfl) (fun K hK => ?_)
                            rw [if_pos (by rfl)]
                            go_simp
                            refine hK.out _ _ (trivial) (fun hHeldN => ?_)
                            clear hHeld hK K
                            have hHeld := hHeldN
                            clear hHeldN
                            try simp only [Act.put, List.setIfInBounds_toArray, List.set_cons_zero, List.set_cons_succ]
                            exact leaf a3 n3 c3 w3 ⟨o3, B3z, hN3⟩
                  case leaf =>
                    rintro a3 n3 c3 w3 ⟨o3, B3z, hN3⟩
                    have hHeld : (fun (_ : World) => True) (w3.alloc (.cells #[.slice a3 n3 c3] 25)) := trivial
                    have Bal : Below w3.heap.size w3 (w3.alloc (.cells #[.slice a3 n3 c3] 25)) := (Below.refl _ _).alloc (Nat.le_refl _) _
                    have hNa := hN3.out.below Bal
                    have BA := B3z.out.trans (Bal.mono B3z.out.size)
                    have hvsA := hvs.out.below BA
                    have hveA := fun (j : Nat) (u : Value) (e : vs[j]? = some u) => (hve.out j u e).below BA
                    have rowA := hNa.row
                    have hsA : c + 1 ≤ (w3.alloc (.cells #[.slice a3 n3 c3] 25)).heap.size := lt_of_block rowA
                    have hu : Word w (w3.alloc (.cells #[.slice a3 n3 c3] 25)) c (.slice a3 n3 c3) (wd (byt key) i) := .inr ⟨(o3.out.weaken (show c + 1 ≤ wz.drew.heap.size from hsz2)).below Bal, wd_small hsb.out i⟩
                    have news : ∀ (j : Nat) (u : Value), [Value.slice a3 n3 c3][j]? = some u → (w3.alloc (.cells #[.slice a3 n3 c3] 25)).cell? (Addr.add ⟨w3.heap.size, 0, none⟩ j) = some u := fun j u hj => cell_one_new w3 (.slice a3 n3 c3) 25 j u hj
                    have sizA : vs.length + 1 ≤ 1000000000 := by have := hvl.out; omega
                    clear o3 B3z hN3 BA Bal
                    replace hNa := Lib.hid hNa
                    replace hvsA := Lib.hid hvsA
                    replace hveA := Lib.hid hveA
                    replace hsA := Lib.hid hsA
                    replace hu := Lib.hid hu
                    replace news := Lib.hid news
                    change wpAnyH _ _ _ _ _ _ _ _ _
                    refine held_ready (i := 16) rfl (by kernel_rfl) (fun K hK => ?_)
                    refine step_append_y rfl (.tmp 101) (.tmp 112) 44 rfl 25 Try.underlying44 (.slice none 0 0) 24 infoRow5 rfl (by decide) (c + 1) (.slice (some ⟨g, 0, none⟩) i cw) vs rfl hvsA.out hsA.out ⟨w3.heap.size, 0, none⟩ 1 1 [.slice a3 n3 c3] rfl rfl news.out (by intro u hu; simp at hu; subst hu; rfl) sizA ?_
                    intro v9 w9 O9 G9 A9 R9
                    have B9 := below_grown hvsA.out hsA.out G9.out
                    have nF := hNa.out.putW hvsA.out hvl.out hveA.out hu.out B9 G9.out O9.out
                    have row9 := (B9.block c (Nat.lt_succ_self _)).trans rowA
                    have hf : w9.frozen? ⟨c, 0, none⟩ = false := frozen_of_row _ _ _ _ _ row9
                    have hc9 : w9.cell? ⟨c, 0, none⟩ = some (.slice (some ⟨g, 0, none⟩) i cw) := (cell_of_row _ _ 0 _ _ _ row9).trans rfl
                    obtain ⟨a9, n9, c9, rfl⟩ := O9.out.shape
                    clear row9 B9 G9 A9 R9 O9
                    replace nF := Lib.hid nF
                    refine hK.out _ _ (trivial) (fun hHeldN => ?_)
                    clear hHeld hK K
                    have hHeld := hHeldN
                    clear hHeldN
                    try simp only [Act.put, List.setIfInBounds_toArray, List.set_cons_zero, List.set_cons_succ]
                    refine held_take (i := 17) (v := ?_) rfl (by kernel_rfl) (by kernel_rfl) (by kernel_rfl) (fun _ _ _ h => h) (Or.inl ⟨by rfl, ?_⟩) (by assumption) ?_
                    rotate_left
                    · intro w hSw; (try dsimp only at hSw); go_simp; try with_reducible rfl
                    try simp only [Act.put, List.setIfInBounds_toArray, List.set_cons_zero, List.set_cons_succ]
                    refine held_take (i := 18) (v := ?_) rfl (by kernel_rfl) (by kernel_rfl) (by kernel_rfl) (fun _ _ _ h => h) (Or.inl ⟨by rfl, ?_⟩) (by assumption) ?_
                    rotate_left
                    · intro w hSw; (try dsimp only at hSw); go_simp; try with_reducible rfl
                    try simp only [Act.put, List.setIfInBounds_toArray, List.set_cons_zero, List.set_cons_succ]
                    refine held_ready (i := 19) rfl (by kernel_rfl) (fun K hK => ?_)
                    go_simp
                    refine hK.out _ _ (trivial) (fun hHeldN => ?_)
                    clear hHeld hK K
                    have hHeld := hHeldN
                    clear hHeldN
                    try simp only [Act.put, List.setIfInBounds_toArray, List.set_cons_zero, List.set_cons_succ]
                    refine wpAnyH_done (by kernel_rfl) ?_ _
                    clear hHeld
                    go_wp2_with fail
                    go_roundw
                    case rel => exact ⟨i + 1, _, by omega, by omega, by go_num, nF.out⟩
                    case measure => simp [intOf]; omega
                · have n0 : ((r : Int) == 0) = false := by simp; omega
                  have n4 : ((r : Int) == 4) = false := by simp; omega
                  have t7 := tP
                  rw [show p = i - 1 from ep.out, pow_else _ (by omega) (by omega)] at t7
                  obtain ⟨wz, hwz⟩ : ∃ wz, wz = wr := ⟨_, rfl⟩
                  have Bz : Hid (Below wr.heap.size wr wz) := Lib.hid (by rw [hwz]; exact Below.refl _ _)
                  replace t7 := Lib.hid (show TextAt wz _ _ by rw [hwz]; exact t7.out)
                  clear er
                  go_wp2_with fail
                  rw [← hwz]
                  clear hwz
                  have hNz := hN.out.below Bz.out
                  have hNd := hNz.below (w' := wz.drew) (Below.refl _ _).drew
                  have Bd := Bz.out.drew
                  have cWz := hNz.cell.1
                  have cMz := (Bz.out.cell (block_lt_of_cell cM)).trans cM
                  have cx := rxored_any wz.drew _ _ (wd (byt key) m) (bytesOf (powW (wordsOf (byt key)) i) 4) (tM.out.below Bd) (t7.out.below (Below.refl _ _).drew) 4 (length_wd _ _) (by simp [length_bytesOf]) (by decide)
                  have hsz2 := lt_of_block hNz.row
                  rw [em.out, wd_hi _ (by omega) hit] at cx
                  replace hNz := Lib.hid hNz
                  replace hNd := Lib.hid hNd
                  replace Bd := Lib.hid Bd
                  replace cx := Lib.hid cx
                  go_wp2_with fail
                  apply onceV (R := fun a3 n3 c3 w3 => Hid (Own w3 wz.drew.heap.size 5 (.slice a3 n3 c3) (u8l (wd (byt key) i))) ∧ Hid (Below wr.heap.size wr w3) ∧ Hid (NewR w w3 c (.slice (some ⟨g, 0, none⟩) i cw) (.slice a8 n8 c8) vk (byt key) 256 i))
                  case tree =>
                    intro leaf
                    refine wp_region_held_drew (S := (fun _ => True)) (by kernel_rfl) (trivial) (fun hHeld => ?_)
                    refine held_take (i := 0) (v := ?_) rfl (by kernel_rfl) (by kernel_rfl) (by kernel_rfl) (fun _ _ _ h => h) (Or.inl ⟨by rfl, ?_⟩) (by assumption) ?_
                    rotate_left
                    · intro w hSw; (try dsimp only at hSw); go_simp; try with_reducible rfl
                    try simp only [Act.put, List.setIfInBounds_toArray, List.set_cons_zero, List.set_cons_succ]
                    refine held_take (i := 1) (v := ?_) rfl (by kernel_rfl) (by kernel_rfl) (by kernel_rfl) (fun _ _ _ h => h) (Or.inl ⟨by rfl, ?_⟩) (by assumption) ?_
                    rotate_left
                    · intro w hSw; (try dsimp only at hSw); go_simp; try with_reducible rfl
                    try simp only [Act.put, List.setIfInBounds_toArray, List.set_cons_zero, List.set_cons_succ]
                    refine held_take (i := 2) (v := ?_) rfl (by kernel_rfl) (by kernel_rfl) (by kernel_rfl) (fun _ _ _ h => h) (Or.inl ⟨by rfl, ?_⟩) (by assumption) ?_
                    rotate_left
                    · intro w hSw; (try dsimp only at hSw); go_simp; try with_reducible rfl
                    try simp only [Act.put, List.setIfInBounds_toArray, List.set_cons_zero, List.set_cons_succ]
                    refine held_take (i := 3) (v := ?_) rfl (by kernel_rfl) (by kernel_rfl) (by kernel_rfl) (fun _ _ _ h => h) (Or.inl ⟨by rfl, ?_⟩) (by assumption) ?_
                    rotate_left
                    · intro w hSw; (try dsimp only at hSw); go_simp; try with_reducible rfl
                    try simp only [Act.put, List.setIfInBounds_toArray, List.set_cons_zero, List.set_cons_succ]
                    refine held_take (i := 5) (v := ?_) rfl (by kernel_rfl) (by kernel_rfl) (by kernel_rfl) (fun _ _ _ h => h) (Or.inl ⟨by rfl, ?_⟩) (by assumption) ?_
                    rotate_left
                    · intro w hSw; (try dsimp only at hSw); go_simp; try with_reducible rfl
                    try simp only [Act.put, List.setIfInBounds_toArray, List.set_cons_zero, List.set_cons_succ]
                    refine held_take (i := 6) (v := ?_) rfl (by kernel_rfl) (by kernel_rfl) (by kernel_rfl) (fun _ _ _ h => h) (Or.inl ⟨by rfl, ?_⟩) (by assumption) ?_
                    rotate_left
                    · intro w hSw; (try dsimp only at hSw); go_simp; try with_reducible rfl
                    try simp only [Act.put, List.setIfInBounds_toArray, List.set_cons_zero, List.set_cons_succ]
                    refine held_take (i := 7) (v := ?_) rfl (by kernel_rfl) (by kernel_rfl) (by kernel_rfl) (fun _ _ _ h => h) (Or.inl ⟨by rfl, ?_⟩) (by assumption) ?_
                    rotate_left
                    · intro w hSw; (try dsimp only at hSw); go_simp; try with_reducible rfl
                    try simp only [Act.put, List.setIfInBounds_toArray, List.set_cons_zero, List.set_cons_succ]
                    refine held_take (i := 9) (v := ?_) rfl (by kernel_rfl) (by kernel_rfl) (by kernel_rfl) (fun _ _ _ h => h) (Or.inl ⟨by rfl, ?_⟩) (by assumption) ?_
                    rotate_left
                    · intro w hSw; (try dsimp only at hSw); go_simp; try with_reducible rfl
                    try simp only [Act.put, List.setIfInBounds_toArray, List.set_cons_zero, List.set_cons_succ]
                    refine held_take (i := 10) (v := ?_) rfl (by kernel_rfl) (by kernel_rfl) (by kernel_rfl) (fun _ _ _ h => h) (Or.inl ⟨by rfl, ?_⟩) (by assumption) ?_
                    rotate_left
                    · intro w hSw; (try dsimp only at hSw); go_simp; try with_reducible rfl
                    try simp only [Act.put, List.setIfInBounds_toArray, List.set_cons_zero, List.set_cons_succ]
                    refine held_take (i := 13) (v := ?_) rfl (by kernel_rfl) (by kernel_rfl) (by kernel_rfl) (fun _ _ _ h => h) (Or.inl ⟨by rfl, ?_⟩) (by assumption) ?_
                    rotate_left
                    · intro w hSw; (try dsimp only at hSw); go_simp; try with_reducible rfl
                    try simp only [Act.put, List.setIfInBounds_toArray, List.set_cons_zero, List.set_cons_succ]
                    refine held_readies2 (i0 := 4) (i1 := 8) rfl rfl (by kernel_rfl) (fun K hK => ?_) (fun K hK => ?_)
                    ·
                      rw [if_pos (by rfl)]
                      go_simp
                      refine hK.out _ _ (trivial) (fun hHeldN => ?_)
                      clear hHeld hK K
                      have hHeld := hHeldN
                      clear hHeldN
                      try simp only [Act.put, List.setIfInBounds_toArray, List.set_cons_zero, List.set_cons_succ]
                      refine held_ready (i := 8) rfl (by kernel_rfl) (fun K hK => ?_)
                      rw [if_pos (by rfl)]
                      go_simp
                      refine hK.out _ _ (trivial) (fun hHeldN => ?_)
                      clear hHeld hK K
                      have hHeld := hHeldN
                      clear hHeldN
                      try simp only [Act.put, List.setIfInBounds_toArray, List.set_cons_zero, List.set_cons_succ]
                      refine held_take (i := 11) (v := ?_) rfl (by kernel_rfl) (by kernel_rfl) (by kernel_rfl) (fun _ _ _ h => h) (Or.inl ⟨by rfl, ?_⟩) (by assumption) ?_
                      rotate_left
                      · intro w hSw; (try dsimp only at hSw); go_simp; try with_reducible rfl
                      try simp only [Act.put, List.setIfInBounds_toArray, List.set_cons_zero, List.set_cons_succ]
                      refine held_ready (i := 12) rfl (by kernel_rfl) (fun K hK => ?_)
                      rw [if_pos (by rfl)]
                      go_simp
                      refine hK.out _ _ (trivial) (fun hHeldN => ?_)
                      clear hHeld hK K
                      have hHeld := hHeldN
                      clear hHeldN
                      try simp only [Act.put, List.setIfInBounds_toArray, List.set_cons_zero, List.set_cons_succ]
                      refine held_ready (i := 14) rfl (by kernel_rfl) (fun K hK => ?_)
                      go_simp
                      refine cx.out.mono ?_
                      rintro e w3 ⟨v3, rfl, o3, B3⟩
                      have hN3 := hNd.out.below B3
                      have c3W := hN3.cell.1
                      have hs3 := lt_of_block hN3.row
                      have B3z := Bd.out.trans (B3.mono Bd.out.size)
                      obtain ⟨a3, n3, c3, rfl⟩ := o3.shape
                      replace o3 := Lib.hid o3
                      replace hN3 := Lib.hid hN3
                      replace B3 := Lib.hid B3
                      replace B3z := Lib.hid B3z
                      refine hK.out _ _ (trivial) (fun hHeldN => ?_)
                      clear hHeld hK K
                      have hHeld := hHeldN
                      clear hHeldN
                      try simp only [Act.put, List.setIfInBounds_toArray, List.set_cons_zero, List.set_cons_succ]
                      refine held_ready (i := 15) rfl (by kernel_rfl) (fun K hK => ?_)
                      rw [if_pos (by rfl)]
                      go_simp
                      refine hK.out _ _ (trivial) (fun hHeldN => ?_)
                      clear hHeld hK K
                      have hHeld := hHeldN
                      clear hHeldN
                      try simp only [Act.put, List.setIfInBounds_toArray, List.set_cons_zero, List.set_cons_succ]
                      exact leaf a3 n3 c3 w3 ⟨o3, B3z, hN3⟩
                    ·
                      rw [if_pos (by rfl)]
                      go_simp
                      refine hK.out _ _ (trivial) (fun hHeldN => ?_)
                      clear hHeld hK K
                      have hHeld := hHeldN
                      clear hHeldN
                      try simp only [Act.put, List.setIfInBounds_toArray, List.set_cons_zero, List.set_cons_succ]
                      refine held_take (i := 11) (v := ?_) rfl (by kernel_rfl) (by kernel_rfl) (by kernel_rfl) (fun _ _ _ h => h) (Or.inl ⟨by rfl, ?_⟩) (by assumption) ?_
                      rotate_left
                      · intro w hSw; (try dsimp only at hSw); go_simp; try with_reducible rfl
                      try simp only [Act.put, List.setIfInBounds_toArray, List.set_cons_zero, List.set_cons_succ]
                      refine held_readies2 (i0 := 4) (i1 := 12) rfl rfl (by kernel_rfl) (fun K hK => ?_) (fun K hK => ?_)
                      ·
                        rw [if_pos (by rfl)]
                        go_simp
                        refine hK.out _ _ (trivial) (fun hHeldN => ?_)
                        clear hHeld hK K
                        have hHeld := hHeldN
                        clear hHeldN
                        try simp only [Act.put, List.setIfInBounds_toArray, List.set_cons_zero, List.set_cons_succ]
                        refine held_ready (i := 12) rfl (by kernel_rfl) (fun K hK => ?_)
                        rw [if_pos (by rfl)]
                        go_simp
                        refine hK.out _ _ (trivial) (fun hHeldN => ?_)
                        clear hHeld hK K
                        have hHeld := hHeldN
                        clear hHeldN
                        try simp only [Act.put, List.setIfInBounds_toArray, List.set_cons_zero, List.set_cons_succ]
                        refine held_ready (i := 14) rfl (by kernel_rfl) (fun K hK => ?_)
                        go_simp
                        refine cx.out.mono ?_
                        rintro e w3 ⟨v3, rfl, o3, B3⟩
                        have hN3 := hNd.out.below B3
                        have c3W := hN3.cell.1
                        have hs3 := lt_of_block hN3.row
                        have B3z := Bd.out.trans (B3.mono Bd.out.size)
                        obtain ⟨a3, n3, c3, rfl⟩ := o3.shape
                        replace o3 := Lib.hid o3
                        replace hN3 := Lib.hid hN3
                        replace B3 := Lib.hid B3
                        replace B3z := Lib.hid B3z
                        refine hK.out _ _ (trivial) (fun hHeldN => ?_)
                        clear hHeld hK K
                        have hHeld := hHeldN
                        clear hHeldN
                        try simp only [Act.put, List.setIfInBounds_toArray, List.set_cons_zero, List.set_cons_succ]
                        refine held_ready (i := 15) rfl (by kernel_rfl) (fun K hK => ?_)
                        rw [if_pos (by rfl)]
                        go_simp
                        refine hK.out _ _ (trivial) (fun hHeldN => ?_)
                        clear hHeld hK K
                        have hHeld := hHeldN
                        clear hHeldN
                        try simp only [Act.put, List.setIfInBounds_toArray, List.set_cons_zero, List.set_cons_succ]
                        exact leaf a3 n3 c3 w3 ⟨o3, B3z, hN3⟩
                      ·
                        rw [if_pos (by rfl)]
                        go_simp
                        refine hK.out _ _ (trivial) (fun hHeldN => ?_)
                        clear hHeld hK K
                        have hHeld := hHeldN
                        clear hHeldN
                        try simp only [Act.put, List.setIfInBounds_toArray, List.set_cons_zero, List.set_cons_succ]
                        refine held_readies2 (i0 := 4) (i1 := 14) rfl rfl (by kernel_rfl) (fun K hK => ?_) (fun K hK => ?_)
                        ·
                          rw [if_pos (by rfl)]
                          go_simp
                          refine hK.out _ _ (trivial) (fun hHeldN => ?_)
                          clear hHeld hK K
                          have hHeld := hHeldN
                          clear hHeldN
                          try simp only [Act.put, List.setIfInBounds_toArray, List.set_cons_zero, List.set_cons_succ]
                          refine held_ready (i := 14) rfl (by kernel_rfl) (fun K hK => ?_)
                          go_simp
                          refine cx.out.mono ?_
                          rintro e w3 ⟨v3, rfl, o3, B3⟩
                          have hN3 := hNd.out.below B3
                          have c3W := hN3.cell.1
                          have hs3 := lt_of_block hN3.row
                          have B3z := Bd.out.trans (B3.mono Bd.out.size)
                          obtain ⟨a3, n3, c3, rfl⟩ := o3.shape
                          replace o3 := Lib.hid o3
                          replace hN3 := Lib.hid hN3
                          replace B3 := Lib.hid B3
                          replace B3z := Lib.hid B3z
                          refine hK.out _ _ (trivial) (fun hHeldN => ?_)
                          clear hHeld hK K
                          have hHeld := hHeldN
                          clear hHeldN
                          try simp only [Act.put, List.setIfInBounds_toArray, List.set_cons_zero, List.set_cons_succ]
                          refine held_ready (i := 15) rfl (by kernel_rfl) (fun K hK => ?_)
                          rw [if_pos (by rfl)]
                          go_simp
                          refine hK.out _ _ (trivial) (fun hHeldN => ?_)
                          clear hHeld hK K
                          have hHeld := hHeldN
                          clear hHeldN
                          try simp only [Act.put, List.setIfInBounds_toArray, List.set_cons_zero, List.set_cons_succ]
                          exact leaf a3 n3 c3 w3 ⟨o3, B3z, hN3⟩
                        ·
                          go_simp
                          refine cx.out.mono ?_
                          rintro e w3 ⟨v3, rfl, o3, B3⟩
                          have hN3 := hNd.out.below B3
                          have c3W := hN3.cell.1
                          have hs3 := lt_of_block hN3.row
                          have B3z := Bd.out.trans (B3.mono Bd.out.size)
                          obtain ⟨a3, n3, c3, rfl⟩ := o3.shape
                          replace o3 := Lib.hid o3
                          replace hN3 := Lib.hid hN3
                          replace B3 := Lib.hid B3
                          replace B3z := Lib.hid B3z
                          refine hK.out _ _ (trivial) (fun hHeldN => ?_)
                          clear hHeld hK K
                          have hHeld := hHeldN
                          clear hHeldN
                          try simp only [Act.put, List.setIfInBounds_toArray, List.set_cons_zero, List.set_cons_succ]
                          refine held_readies2 (i0 := 4) (i1 := 15) rfl rfl (by kernel_rfl) (fun K hK => ?_) (fun K hK => ?_)
                          ·
                            rw [if_pos (by rfl)]
                            go_simp
                            refine hK.out _ _ (trivial) (fun hHeldN => ?_)
                            clear hHeld hK K
                            have hHeld := hHeldN
                            clear hHeldN
                            try simp only [Act.put, List.setIfInBounds_toArray, List.set_cons_zero, List.set_cons_succ]
                            refine held_ready (i := 15) rfl (by kernel_rfl) (fun K hK => ?_)
                            rw [if_pos (by rfl)]
                            go_simp
                            refine hK.out _ _ (trivial) (fun hHeldN => ?_)
                            clear hHeld hK K
                            have hHeld := hHeldN
                            clear hHeldN
                            try simp only [Act.put, List.setIfInBounds_toArray, List.set_cons_zero, List.set_cons_succ]
                            exact leaf a3 n3 c3 w3 ⟨o3, B3z, hN3⟩
                          ·
                            rw [if_pos (by rfl)]
                            go_simp
                            refine hK.out _ _ (trivial) (fun hHeldN => ?_)
                            clear hHeld hK K
                            have hHeld := hHeldN
                            clear hHeldN
                            try simp only [Act.put, List.setIfInBounds_toArray, List.set_cons_zero, List.set_cons_succ]
                            refine held_ready (i := 4) rfl (by kernel_rfl) (fun K hK => ?_)
                            rw [if_pos (by rfl)]
                            go_simp
                            refine hK.out _ _ (trivial) (fun hHeldN => ?_)
                            clear hHeld hK K
                            have hHeld := hHeldN
                            clear hHeldN
                            try simp only [Act.put, List.setIfInBounds_toArray, List.set_cons_zero, List.set_cons_succ]
                            exact leaf a3 n3 c3 w3 ⟨o3, B3z, hN3⟩
                  case leaf =>
                    rintro a3 n3 c3 w3 ⟨o3, B3z, hN3⟩
                    have hHeld : (fun (_ : World) => True) (w3.alloc (.cells #[.slice a3 n3 c3] 25)) := trivial
                    have Bal : Below w3.heap.size w3 (w3.alloc (.cells #[.slice a3 n3 c3] 25)) := (Below.refl _ _).alloc (Nat.le_refl _) _
                    have hNa := hN3.out.below Bal
                    have BA := B3z.out.trans (Bal.mono B3z.out.size)
                    have hvsA := hvs.out.below BA
                    have hveA := fun (j : Nat) (u : Value) (e : vs[j]? = some u) => (hve.out j u e).below BA
                    have rowA := hNa.row
                    have hsA : c + 1 ≤ (w3.alloc (.cells #[.slice a3 n3 c3] 25)).heap.size := lt_of_block rowA
                    have hu : Word w (w3.alloc (.cells #[.slice a3 n3 c3] 25)) c (.slice a3 n3 c3) (wd (byt key) i) := .inr ⟨(o3.out.weaken (show c + 1 ≤ wz.drew.heap.size from hsz2)).below Bal, wd_small hsb.out i⟩
                    have news : ∀ (j : Nat) (u : Value), [Value.slice a3 n3 c3][j]? = some u → (w3.alloc (.cells #[.slice a3 n3 c3] 25)).cell? (Addr.add ⟨w3.heap.size, 0, none⟩ j) = some u := fun j u hj => cell_one_new w3 (.slice a3 n3 c3) 25 j u hj
                    have sizA : vs.length + 1 ≤ 1000000000 := by have := hvl.out; omega
                    clear o3 B3z hN3 BA Bal
                    replace hNa := Lib.hid hNa
                    replace hvsA := Lib.hid hvsA
                    replace hveA := Lib.hid hveA
                    replace hsA := Lib.hid hsA
                    replace hu := Lib.hid hu
                    replace news := Lib.hid news
                    change wpAnyH _ _ _ _ _ _ _ _ _
                    refine held_ready (i := 16) rfl (by kernel_rfl) (fun K hK => ?_)
                    refine step_append_y rfl (.tmp 101) (.tmp 112) 44 rfl 25 Try.underlying44 (.slice none 0 0) 24 infoRow5 rfl (by decide) (c + 1) (.slice (some ⟨g, 0, none⟩) i cw) vs rfl hvsA.out hsA.out ⟨w3.heap.size, 0, none⟩ 1 1 [.slice a3 n3 c3] rfl rfl news.out (by intro u hu; simp at hu; subst hu; rfl) sizA ?_
                    intro v9 w9 O9 G9 A9 R9
                    have B9 := below_grown hvsA.out hsA.out G9.out
                    have nF := hNa.out.putW hvsA.out hvl.out hveA.out hu.out B9 G9.out O9.out
                    have row9 := (B9.block c (Nat.lt_succ_self _)).trans rowA
                    have hf : w9.frozen? ⟨c, 0, none⟩ = false := frozen_of_row _ _ _ _ _ row9
                    have hc9 : w9.cell? ⟨c, 0, none⟩ = some (.slice (some ⟨g, 0, none⟩) i cw) := (cell_of_row _ _ 0 _ _ _ row9).trans rfl
                    obtain ⟨a9, n9, c9, rfl⟩ := O9.out.shape
                    clear row9 B9 G9 A9 R9 O9
                    replace nF := Lib.hid nF
                    refine hK.out _ _ (trivial) (fun hHeldN => ?_)
                    clear hHeld hK K
                    have hHeld := hHeldN
                    clear hHeldN
                    try simp only [Act.put, List.setIfInBounds_toArray, List.set_cons_zero, List.set_cons_succ]
                    refine held_take (i := 17) (v := ?_) rfl (by kernel_rfl) (by kernel_rfl) (by kernel_rfl) (fun _ _ _ h => h) (Or.inl ⟨by rfl, ?_⟩) (by assumption) ?_
                    rotate_left
                    · intro w hSw; (try dsimp only at hSw); go_simp; try with_reducible rfl
                    try simp only [Act.put, List.setIfInBounds_toArray, List.set_cons_zero, List.set_cons_succ]
                    refine held_take (i := 18) (v := ?_) rfl (by kernel_rfl) (by kernel_rfl) (by kernel_rfl) (fun _ _ _ h => h) (Or.inl ⟨by rfl, ?_⟩) (by assumption) ?_
                    rotate_left
                    · intro w hSw; (try dsimp only at hSw); go_simp; try with_reducible rfl
                    try simp only [Act.put, List.setIfInBounds_toArray, List.set_cons_zero, List.set_cons_succ]
                    refine held_ready (i := 19) rfl (by kernel_rfl) (fun K hK => ?_)
                    go_simp
                    refine hK.out _ _ (trivial) (fun hHeldN => ?_)
                    clear hHeld hK K
                    have hHeld := hHeldN
                    clear hHeldN
                    try simp only [Act.put, List.setIfInBounds_toArray, List.set_cons_zero, List.set_cons_succ]
                    refine wpAnyH_done (by kernel_rfl) ?_ _
                    clear hHeld
                    go_wp2_with fail
                    go_roundw
                    case rel => exact ⟨i + 1, _, by omega, by omega, by go_num, nF.out⟩
                    case measure => simp [intOf]; omega
            · obtain rfl : i = 60 := by omega
              obtain ⟨aw, cw, rC⟩ := hN.done
              have lowF := hN.low
              simp only [show ((60 : Nat) : Int) = 60 from rfl]
              replace hN := Lib.hid hN
              replace rC := Lib.hid rC
              replace lowF := Lib.hid lowF
              go_wp2_with fail
              go_ret
              exact ⟨_, _, _, _, _, rfl, rC.out, lowF.out⟩
end Go.Proofs.Ytecmagenlbnchaa
