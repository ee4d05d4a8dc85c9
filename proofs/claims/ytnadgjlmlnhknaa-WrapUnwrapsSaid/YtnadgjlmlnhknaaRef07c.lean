/-
  The reference of layer 7: Wrap. Condition: a key of 32 bytes.
-/
import Derived.Test.YtnadgjlmlnhknaaRef07b
import Derived.Test.YtnadgjlmlnhknaaWrapDo
namespace Go.Proofs.Ytnadgjlmlnhknaa
open Go.RowKit

theorem wrap_idx2 {n k I M : Nat} (h : M = n * k + I) (hM : M < 4294967296) : wrap64 (wrap64 ((n : Int) * (k : Int)) + (I : Int)) = (M : Int) := by
  obtain ⟨N, eN⟩ : ∃ N, N = n * k := ⟨_, rfl⟩
  have e1 : ((n : Int) * (k : Int)) = (N : Int) := by rw [eN]; push_cast; rfl
  rw [← eN] at h
  have e2 : wrap64 (N : Int) = (N : Int) := IntWalk.wrap64_in _ (by omega)
  rw [e1, e2, IntWalk.wrap64_in _ (by omega)]
  omega
theorem mark_first (t : List Nat) : bytesOf (markF t) 8 = List.replicate 8 166 := by
  have h : bytesOf (markF t) 8 = bytesOf (fun _ => 166) 8 := bytesOf_congr fun j hj => by
    unfold markF
    rw [byt_append, if_pos (by simpa using hj)]
    have e : ∀ j, j < 8 → byt (List.replicate 8 166) j = 166 := by decide
    exact e j hj
  rw [h]; rfl
theorem mark_word (t : List Nat) (i : Nat) : wordL (markF t) (i + 1) = wordL (byt t) i := bytesOf_congr fun j hj => by
  unfold markF
  rw [byt_append, if_neg (by simp; omega)]
  congr 1
  simp; omega

set_option maxRecDepth 100000 in
theorem r7wrap_bad (w : World) (vk : Value) (ao : Option Addr) (m cap : Nat) (hm : m < 9223372036854775808) (hf : fitsB m 0 = false) :
    Calls Try.prog 36 #[vk, .slice ao m cap] w fun e w' => e = .returned (.tuple #[.slice none 0 0, .int .i64 3]) ∧ Below w.heap.size w w' := by
  have hq := of_decide_eq_false hf
  clear hf
  have hmod : ((m : Int)).tmod 8 = ((m % 8 : Nat) : Int) := by rw [Int.tmod_eq_emod_of_nonneg (by omega)]; omega
  by_cases h0 : m < 16
  · have d0 : decide ((m : Int) < 16) = true := decide_eq_true (by omega)
    go_enter Try.func36, Try.ntmps36
    go_wp2_with fail
    go_ret2
    exact ⟨rfl, Below.refl _ _⟩
  · have d0 : decide ((m : Int) < 16) = false := decide_eq_false (by omega)
    by_cases h1 : 128 < m
    · have d1 : decide ((m : Int) > 128) = true := decide_eq_true (by omega)
      go_enter Try.func36, Try.ntmps36
      go_wp2_with fail
      go_ret2
      exact ⟨rfl, Below.refl _ _⟩
    · have d1 : decide ((m : Int) > 128) = false := decide_eq_false (by omega)
      have d2 : (((m % 8 : Nat) : Int) == 0) = false := beq_eq_false_iff_ne.2 (by omega)
      have d3 : (((m % 8 : Nat) : Int) != 0) = true := by rw [bne, d2]; rfl
      generalize m % 8 = r at *
      go_enter Try.func36, Try.ntmps36
      go_wp2_with fail
      go_ret2
      exact ⟨rfl, Below.refl _ _⟩

set_option maxHeartbeats 4000000 in
set_option maxRecDepth 100000 in
theorem r7wrap_ok (w : World) (vk : Value) (key : List Nat) (hk : key.length = 32) (htk : TextAt w vk key) (ao : Option Addr) (t : List Nat) (m cap : Nat) (em : t.length = m) (ht : TextAt w (.slice ao m cap) t) (hf : fitsB m 0 = true) :
    Calls Try.prog 36 #[vk, .slice ao m cap] w fun e w' => ∃ v, e = .returned (.tuple #[v, .int .i64 0]) ∧ TextAt w' v (wrapL (byt (wordsOf (byt key))) t) ∧ Below w.heap.size w w' := by
  obtain ⟨hm8, hm16, hm128⟩ := of_decide_eq_true hf
  simp only [Nat.add_zero] at hm16 hm128
  obtain ⟨n, en⟩ : ∃ n, m = 8 * n := ⟨m / 8, by omega⟩
  have hmod : ((m : Int)).tmod 8 = 0 := by rw [Int.tmod_eq_emod_of_nonneg (by omega)]; omega
  have d0 : decide ((m : Int) < 16) = false := decide_eq_false (by omega)
  have d1 : decide ((m : Int) > 128) = false := decide_eq_false (by omega)
  have hs := byt_lt htk.small
  have cn := rnew_any w vk key hk htk
  have hV : ∀ i, byt (wordsOf (byt key)) i < 256 := words_lt hs 60
  generalize byt (wordsOf (byt key)) = V at *
  have st := ht.small
  have hn2 : 2 ≤ n := by omega
  have hn16 : n ≤ 16 := by omega
  replace hk := Lib.hid hk
  replace htk := Lib.hid htk
  replace hs := Lib.hid hs
  replace em := Lib.hid em
  replace ht := Lib.hid ht
  replace hf := Lib.hid hf
  replace hm8 := Lib.hid hm8
  replace hm16 := Lib.hid hm16
  replace hm128 := Lib.hid hm128
  replace en := Lib.hid en
  replace cn := Lib.hid cn
  replace hV := Lib.hid hV
  replace st := Lib.hid st
  replace hn2 := Lib.hid hn2
  replace hn16 := Lib.hid hn16
  go_enter Try.func36, Try.ntmps36
  go_wp2_with fail
  refine cn.out.mono ?_
  rintro e w1 ⟨c, aw, cw, vb, vk2, rfl, rC, B1⟩
  have R1 : RefAt w1 c V := ⟨_, _, _, _, rC⟩
  have cw2 := r7words_any w1 _ t m n em.out en.out (by have := hm128.out; omega) (ht.out.below B1)
  clear cn rC
  replace R1 := Lib.hid R1
  replace B1 := Lib.hid B1
  replace cw2 := Lib.hid cw2
  go_wp2_with fail
  refine cw2.out.mono ?_
  rintro e w2 ⟨vr, vs, rfl, oR, lR, eR, B2⟩
  obtain ⟨ar, cq, rfl, q1, _, _, qb, qc⟩ := oR.form
  have ev0 : vs[0]? = some (vs[0]'(by have := hn2.out; omega)) := List.getElem?_eq_getElem _
  obtain ⟨g, rfl, _, _⟩ := qc 0 _ ev0
  have hgR := (oR.lt g rfl)
  rw [lR] at oR q1 ⊢
  have st0 : WrapR w (w2.alloc (.cells (u8s (List.replicate 8 166)) 5)) g 0 n cq c (.slice (some ⟨w2.heap.size, 0, none⟩) 8 8) V (wrapTo V (markF t) n (n * 0)) := by
    have Ba : Below w2.heap.size w2 (w2.alloc (.cells (u8s (List.replicate 8 166)) 5)) := (Below.refl _ _).alloc (Nat.le_refl _) _
    obtain ⟨cur, hcur⟩ := own_typed oR (k := g) rfl
    have tl := litL (wx := w2) (l := List.replicate 8 166) (fun x hx => by rw [List.eq_of_mem_replicate hx]; decide) (by decide)
    refine ⟨⟨vs, by rw [Nat.zero_add]; exact (oR.weaken (Nat.zero_le _)).below Ba, by rw [Nat.zero_add]; exact lR, fun i u hi e => ?_⟩, ⟨?_, fun ad n' c' e => ?_⟩, ?_, ?_, w1, ?_, ?_, R1.out⟩
    · rw [Nat.zero_add] at e
      rw [show wrapTo V (markF t) n (n * 0) = markF t from rfl, mark_word]
      have h := eR i u e
      exact ⟨(h.below Ba).text (bytesOf_lt fun j _ => byt_lt st.out _), NotIn.typed h hcur⟩
    · rw [show wrapTo V (markF t) n (n * 0) = markF t from rfl, mark_first]
      exact tl
    · injection e with e1
      injection e1 with e1
      rw [← e1]
      have := hgR.2
      show w2.heap.size ≠ g
      omega
    · exact (B1.out.trans (B2.mono B1.out.size)).trans (Ba.mono (Nat.le_trans B1.out.size B2.size))
    · exact Nat.le_trans B1.out.size hgR.1
    · exact hgR.1
    · exact B2.trans (Ba.mono B2.size)
  clear cw2 oR eR B2 B1 R1 ev0 qb qc
  replace st0 := Lib.hid st0
  replace hgR := Lib.hid hgR
  replace q1 := Lib.hid q1
  go_wp2_with fail
  go_loopw [8, 9] (fun va tv wr => ∃ k : Nat, k ≤ 6 ∧ tv = .int .i64 k ∧ WrapR w wr g 0 n cq c va V (wrapTo V (markF t) n (n * k))) (fun _ tv _ => 6 - (intOf tv).toNat)
  case atStart => exact ⟨0, Nat.zero_le _, rfl, st0.out⟩
  case round =>
    clear st0
    obtain ⟨k, hk6, rfl, st1⟩ := hrel
    obtain ⟨wq, rfl⟩ : ∃ wq : World, wq = wr := ⟨_, rfl⟩
    by_cases hlt : k < 6
    · have d6 : decide ((k : Int) < 6) = true := decide_eq_true (by omega)
      replace st1 := Lib.hid st1
      go_wp2_with fail
      go_loopw [8, 10] (fun va iv wr => ∃ p I : Nat, I = p + 1 ∧ p ≤ n ∧ iv = .int .i64 I ∧ WrapR w wr g 0 n cq c va V (wrapTo V (markF t) n (n * k + p))) (fun _ iv _ => n + 1 - (intOf iv).toNat)
      case atStart => exact ⟨0, 1, rfl, Nat.zero_le _, rfl, st1.out⟩
      case round =>
        clear st1
        obtain ⟨p, I, eI, hp, rfl, st2⟩ := hrel
        by_cases hpn : p < n
        · have hn9 := hn16.out
          have dl : decide ((I : Int) ≤ (n : Int)) = true := decide_eq_true (by omega)
          have dl2 : decide (I ≤ n) = true := decide_eq_true (by omega)
          have f1 : (I : Int) - 1 = (p : Int) := by omega
          have f2 : (p : Int) < (n : Int) := by omega
          have f5 : wrap64 (p : Int) = (p : Int) := IntWalk.wrap64_in _ (by omega)
          have f3 : 0 < I := by omega
          have f6 : I < 20 := by omega
          obtain ⟨M, eM⟩ : ∃ M, M = n * k + I := ⟨_, rfl⟩
          have hM : M < 4294967296 := by
            have h1 : n * k ≤ 16 * 5 := Nat.mul_le_mul (by omega) (by omega)
            omega
          have es : wrapTo V (markF t) n (n * k + p + 1) = wstep V (wrapTo V (markF t) n (n * k + p)) (p + 1) M := by
            rw [wrapTo_succ, Nat.mul_add_mod, Nat.mod_eq_of_lt hpn, eM, eI, Nat.add_assoc]
          have bS : ∀ j, wrapTo V (markF t) n (n * k + p) j < 256 := wrapTo_lt hV.out (fun j => by
            unfold markF
            exact byt_lt (fun x hx => by
              rcases List.mem_append.1 hx with hx | hx
              · rw [List.eq_of_mem_replicate hx]; decide
              · exact st.out x hx) j) n _
          generalize wrapTo V (markF t) n (n * k + p) = S at *
          have hq1 := q1.out
          have hcut := run_cut_lh (P := Try.prog) (T := 42) (e := 29) Try.underlying42 (by kernel_rfl) (some ⟨g, 0, none⟩) n cq p I (by omega) (by omega) (p : Int) (I : Int) rfl rfl
          rw [cutA_some (by omega), show I - p = 1 by omega, Nat.zero_add] at hcut
          have bW := wblk_lt bS (p + 1)
          have tx := st2.text1 hpn
          rw [Nat.zero_add] at tx
          have cj := r7join_any _ _ _ st2.a.1 (some ⟨g, p, none⟩) 1 (cq - p) _ rfl tx (by simp [length_bytesOf, length_wordL]) (by decide)
          rw [join_blk] at cj
          clear tx hq1
          replace st2 := Lib.hid st2
          replace es := Lib.hid es
          replace bS := Lib.hid bS
          replace bW := Lib.hid bW
          replace cj := Lib.hid cj
          replace eM := Lib.hid eM
          replace hM := Lib.hid hM
          replace eI := Lib.hid eI
          replace hn9 := Lib.hid hn9
          go_wp2_with fail
          refine cj.out.mono ?_
          rintro e w3 ⟨v3, rfl, o3, B3⟩
          have ct := rturn_at (st2.out.below B3).refAt hV.out v3 _ bW.out (o3.text (tabs_lt bW.out))
          clear cj o3
          replace B3 := Lib.hid B3
          replace ct := Lib.hid ct
          go_wp2_with fail
          refine ct.out.mono ?_
          rintro e w4 ⟨v4, rfl, o4, B4⟩
          have B34 := B3.out.trans (B4.mono B3.out.size)
          have bT := bytes_turn hV.out bW.out
          have nx : NotIn v4 g := NotIn.ofOwn o4 (Nat.lt_of_lt_of_le st2.out.lt B3.out.size)
          have t4 := o4.text (tabs_lt bT)
          have eZ : wput S (p + 1) (wmix (turnF V (wblk S (p + 1))) M) = wstep V S (p + 1) M := (wstep_def V S (p + 1) M).symm
          generalize turnF V (wblk S (p + 1)) = x at *
          obtain ⟨ax, cx, rfl, hcx, _⟩ := t4.ex
          have tlo := TextAt.cutHi (hi := 8) t4 (by rw [length_tab]; decide)
          have thi := TextAt.cutLo (lo := 8) t4 (by rw [length_tab]; decide)
          rw [cut_lo] at tlo
          rw [cut_hi] at thi
          rw [length_tab] at nx hcx t4 thi ⊢
          have c1 := run_cut_h (P := Try.prog) (T := 29) (e := 5) Try.underlying29 infoU8s ax 16 cx 8 (by omega) 8 rfl
          have c2 := run_cut_l (P := Try.prog) (T := 29) (e := 5) Try.underlying29 infoU8s ax 16 cx 8 (by decide) 8 rfl
          have cm := r7mixed_any w4 (.slice ax 8 cx) x (fun i hi => bT i (by omega)) tlo M hM.out
          clear ct o4 B4 B3 tlo
          replace B34 := Lib.hid B34
          replace bT := Lib.hid bT
          replace nx := Lib.hid nx
          replace t4 := Lib.hid t4
          replace thi := Lib.hid thi
          replace eZ := Lib.hid eZ
          replace cm := Lib.hid cm
          replace hcx := Lib.hid hcx
          go_wp2_with fail
          rw [wrap_idx2 (n := n) (k := k) (I := I) (M := M) eM.out hM.out]
          refine cm.out.mono ?_
          rintro e w5 ⟨v5, rfl, o5, B5⟩
          have B35 := B34.out.trans (B5.mono B34.out.size)
          have n5 : NotIn v5 g := NotIn.ofOwn o5 (Nat.lt_of_lt_of_le st2.out.lt B34.out.size)
          have bX := wmix_lt bT.out M
          have t5 := o5.text (bytesOf_lt fun i hi => bX i (by omega))
          have th5 := thi.out.below B5
          have eh : bytesOf (fun j => x (8 + j)) 8 = bytesOf (fun j => wmix x M (8 + j)) 8 := bytesOf_congr fun j hj => by unfold wmix; rw [if_neg (by omega)]
          rw [eh] at th5
          have st6 := st2.out.put B35 hpn t5 n5 th5 nx.out.cut
          obtain ⟨u0, cP, fP, _⟩ := (st2.out.below B35).cell hpn
          rw [eZ.out, ← es.out] at st6
          rw [Nat.zero_add] at cP fP st6
          clear cm o5 B5 thi t4 th5 t5 n5
          replace st6 := Lib.hid st6
          replace B35 := Lib.hid B35
          replace bX := Lib.hid bX
          go_wp2_with fail
          go_roundw
          case rel => exact ⟨p + 1, I + 1, by have := eI.out; omega, by omega, by go_num, by rw [← Nat.add_assoc]; exact st6.out⟩
          case measure => simp [intOf]; have := eI.out; omega
        · obtain rfl : p = n := by omega
          have dl : decide ((I : Int) ≤ (p : Int)) = false := decide_eq_false (by omega)
          have dl2 : decide (I ≤ p) = false := decide_eq_false (by omega)
          replace st2 := Lib.hid st2
          replace eI := Lib.hid eI
          go_wp2_with fail
          go_roundw
          case rel => exact ⟨k + 1, by omega, by go_num, by rw [Nat.mul_succ]; exact st2.out⟩
          case measure => simp [intOf]; omega
    · obtain rfl : k = 6 := by omega
      simp only [show ((6 : Nat) : Int) = 6 from rfl]
      have tx := st1.texts
      have hn9 := hn16.out
      have cj := r7join_any _ _ _ st1.a.1 (some ⟨g, 0, none⟩) n cq _ (by simp) tx (by rw [words_flat]; simp [length_bytesOf]; omega) (by omega)
      have el : wrapL V t = bytesOf (wrapTo V (markF t) n (n * 6)) (8 + 8 * n) := by
        unfold wrapL
        have h8 : t.length / 8 = n := by have := em.out; have := en.out; omega
        rw [h8, Nat.mul_comm 6 n]
        congr 1; have := em.out; have := en.out; omega
      rw [words_flat, ← bytesOf_add, ← el] at cj
      have low := st1.low
      clear tx
      replace st1 := Lib.hid st1
      replace cj := Lib.hid cj
      replace el := Lib.hid el
      replace low := Lib.hid low
      replace hn9 := Lib.hid hn9
      go_wp2_with fail
      refine cj.out.mono ?_
      rintro e w3 ⟨v3, rfl, o3, B3⟩
      have lowF := low.out.trans (B3.mono low.out.size)
      have bS : ∀ j, wrapTo V (markF t) n (n * 6) j < 256 := wrapTo_lt hV.out (fun j => by
        unfold markF
        exact byt_lt (fun x hx => by
          rcases List.mem_append.1 hx with hx | hx
          · rw [List.eq_of_mem_replicate hx]; decide
          · exact st.out x hx) j) n _
      have tF := o3.text (by rw [el.out]; exact bytesOf_lt fun j _ => bS j)
      clear bS
      replace o3 := Lib.hid o3
      replace B3 := Lib.hid B3
      replace lowF := Lib.hid lowF
      replace tF := Lib.hid tF
      go_wp2_with fail
      go_ret2
      exact ⟨_, rfl, tF.out, lowF.out⟩
end Go.Proofs.Ytnadgjlmlnhknaa
