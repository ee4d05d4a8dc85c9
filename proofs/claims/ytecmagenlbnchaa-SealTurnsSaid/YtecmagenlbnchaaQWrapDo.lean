/-
  wrap's Wrap and Unwrap. Conditions: a key of 32 bytes; a text not too long.
-/
import Derived.Test.YtecmagenlbnchaaQWrapMix
import Derived.Test.YtecmagenlbnchaaQAesNew
import Derived.Test.YtecmagenlbnchaaQAesBack
import Derived.Test.YtecmagenlbnchaaQHeld
namespace Go.Proofs.Ytecmagenlbnchaa
set_option maxRecDepth 100000
open Go.RowKit

theorem BlkAt.ofRow {w : World} {g ty : Nat} {F : Nat → Nat} (h : RowB w g ty (tab F)) : BlkAt w g ty 16 16 F :=
  ⟨⟨fun j => .int .u8 (F j : Int), ⟨u8s (tab F), h, size_tab F, fun i hi => by simp [u8s, tab, hi]⟩, fun _ _ => rfl⟩, Nat.le_refl _⟩
theorem BlkAt.row {w : World} {g ty : Nat} {F : Nat → Nat} (h : BlkAt w g ty 16 16 F) : RowB w g ty (tab F) := by
  obtain ⟨f, ⟨c, h1, h2, h3⟩, h4⟩ := h.ex
  have e : c = u8s (tab F) := by
    apply Array.ext_getElem?
    intro i
    by_cases hi : i < 16
    · rw [h3 i hi, h4 i hi]; simp [u8s, tab, hi]
    · rw [Array.getElem?_eq_none (by omega), Array.getElem?_eq_none (by rw [size_tab]; omega)]
  unfold RowB
  rw [← e]; exact h1
theorem BlkAt.below {w w' : World} {g ty cap len B : Nat} {F : Nat → Nat} (h : BlkAt w g ty cap len F) (hB : Below B w w') (hg : g < B) : BlkAt w' g ty cap len F := h.stay (hB.block g hg)

theorem BlkAt.own {w : World} {g cap len base : Nat} {F : Nat → Nat} (h : BlkAt w g 5 cap len F) (hg : base ≤ g) (hc : cap ≤ maxLen) : Own w base 5 (.slice (some ⟨g, 0, none⟩) len cap) (u8l (bytesOf F len)) := by
  obtain ⟨f, ⟨c, h1, h2, h3⟩, h4⟩ := h.ex
  have hle := h.le
  have hl : (u8l (bytesOf F len)).length = len := by simp [u8l]
  refine ⟨by simp [u8l], .inr ⟨g, cap, c, by rw [hl], hg, h1, by rw [hl]; exact hle, hc, by rw [h2, Nat.mul_one], ?_⟩⟩
  rw [hl, Nat.mul_one]
  apply List.ext_getElem?
  intro i
  by_cases hi : i < len
  · rw [List.getElem?_take, if_pos hi, Array.getElem?_toList, h3 i (by omega), h4 i hi]
    simp [u8l, bytesOf, hi]
  · rw [List.getElem?_eq_none (by simp; omega), List.getElem?_eq_none (by rw [hl]; omega)]
theorem BlkAt.ofOwn {w : World} {g cap base : Nat} {l : List Nat} (h : Own w base 5 (.slice (some ⟨g, 0, none⟩) l.length cap) (u8l l)) : BlkAt w g 5 cap l.length (byt l) := by
  have hl : (u8l l).length = l.length := by simp [u8l]
  rcases h.2 with ⟨e, _⟩ | ⟨g', cap', cur, e, _, h1, h2, _, h3, h4⟩
  · simp at e
  · rw [hl] at e
    obtain ⟨rfl, rfl⟩ : g = g' ∧ cap = cap' := by simpa using e
    rw [Nat.mul_one] at h3
    rw [hl] at h2
    rw [hl, Nat.mul_one] at h4
    refine ⟨⟨fun i => cur[i]?.getD undef, ⟨cur, h1, h3, fun i hi => by simp [h3, hi]⟩, fun j hj => ?_⟩, h2⟩
    have e1 : (cur.toList.take l.length)[j]? = (u8l l)[j]? := by rw [h4]
    rw [List.getElem?_take, if_pos hj, Array.getElem?_toList] at e1
    show cur[j]?.getD undef = _
    rw [e1]
    simp [u8l, byt, List.getD, hj]
/-- 'append' of a text that fits. -/
theorem wpList_append_fits {w : World} {ops : Array Oper} {rest : List Oper} {o : Oper} {a : Act} {Q : Exit → Act → World → Prop} (hw : Region.wanted o (yielded ops a.tmps) = true) (s x : Operand)
    (ho : o.op = .call { callee := .builtin .append, args := #[s, x], argTypes := #[25, 25] })
    (base g cap n m : Nat) (t : List Nat) (ht : t.length = n) (hs : a.eval s = .slice (some ⟨g, 0, none⟩) n cap) (hown : Own w base 5 (.slice (some ⟨g, 0, none⟩) n cap) (u8l t))
    (ob oo c : Nat) (u : List Nat) (hm : u.length = m) (hx : a.eval x = .slice (some ⟨ob, oo, none⟩) m c) (hu : TextAt w (.slice (some ⟨ob, oo, none⟩) m c) u) (hroom : n + m ≤ cap)
    (h : ∀ w', Hid (Own w' base 5 (.slice (some ⟨g, 0, none⟩) (n + m) cap) (u8l (t ++ u))) → Hid (Upd (fun k => k = g) w w') → wpList Try.prog ops Q rest (a.put o.dst (.slice (some ⟨g, 0, none⟩) (n + m) cap)) w') : wpList Try.prog ops Q (o :: rest) a w :=
  wpList_step fun _ hK => by
    rw [if_pos hw]
    obtain ⟨i, hi, hz, hsz, hb⟩ := infoU8'
    obtain ⟨ao', cap', e, h1, h2, h3⟩ := hu.ex
    have hlt : (u8l t).length = n := by simp [u8l, ht]
    have hown' : w.ownsRow base 5 1 (.slice (some ⟨g, 0, none⟩) n cap) n (u8l t) := by
      have := hown
      unfold Own at this
      rwa [hlt] at this
    obtain ⟨w', hr, g2, g3⟩ := run_append_fits (P := Try.prog) w base 25 o.type 5 i 1 Try.underlying25 hi hsz g n cap (u8l t) hown' ⟨ob, oo, none⟩ m c (u8l u) (by simp [u8l, hm])
      (fun j y hj => by
        obtain ⟨ad', e1, e2⟩ := h3.news j y hj
        rw [hm] at e
        obtain ⟨e3, _⟩ : some (⟨ob, oo, none⟩ : Addr) = ao' ∧ c = cap' := by injection e with e1 _ e3; exact ⟨e1, e3⟩
        rw [← e3] at e1
        cases e1; exact e2) (u8l_one _) hroom
    unfold Oper.wp execOp
    simp only [ho, resolve, invoke, builtin, Sem.run_bind, Sem.run_pure, Result.andThen_ok, List.map_toArray, List.map_cons, List.map_nil, hs, hx, hr]
    refine hK _ _ (h w' (Lib.hid ?_) (Lib.hid ⟨g3.os, g3.tape, g3.output, g3.size, fun k hk hne => g3.block k hk (fun e => hne (by simpa [Value.ownBlock] using e))⟩))
    have e2 : (u8l (t ++ u)).length = n + m := by simp [u8l, ht, hm]
    show w'.ownsRow base 5 1 _ (u8l (t ++ u)).length (u8l (t ++ u))
    rw [e2, u8l_append]; exact g2

theorem wrap_idx {n k I M : Nat} (h : M = n * k + I) (hM : M < 4294967296) : wrap64 ((n : Int) * (k : Int) + (I : Int)) = (M : Int) := by
  have e : (n : Int) * (k : Int) + (I : Int) = (M : Int) := by rw [h, Int.natCast_add, Int.natCast_mul]
  rw [e]; exact IntWalk.wrap64_in _ (by omega)
theorem wrap_left {k q m : Nat} (h : k < 6 ∨ q = 0) (h1 : (2 + 0) * 8 ≤ m) (h2 : m = 8 * q) : k < 6 := by omega
theorem BlkAt.src0 {w : World} {g ty cap len n : Nat} {F : Nat → Nat} (h : BlkAt w g ty cap len F) (hn : n ≤ len) : ∀ j v, (u8l (bytesOf F n))[j]? = some v → w.cell? (Addr.add ⟨g, 0, none⟩ j) = some v := by
  have h1 := h.src (o := 0) (n := n) (by omega)
  rwa [show (fun i => F (0 + i)) = F from funext fun i => by rw [Nat.zero_add]] at h1
/-- Wrap at work: the text that comes of it, the cipher. -/
structure WrSt (w wr : World) (g cap len c : Nat) (V S : Nat → Nat) : Prop where
  o : BlkAt wr g 5 cap len S
  ci : CipherAt wr c V
  low : Below w.heap.size w wr
  gw : w.heap.size ≤ g
  cw : w.heap.size ≤ c
  s : ∀ j, S j < 256
theorem WrSt.below {w wr w' : World} {g cap len c : Nat} {V S : Nat → Nat} (h : WrSt w wr g cap len c V S) (hB : Below wr.heap.size wr w') : WrSt w w' g cap len c V S :=
  ⟨h.o.below hB h.o.lt, h.ci.below hB (Nat.le_refl _), h.low.trans (hB.mono h.low.size), h.gw, h.cw, h.s⟩
theorem WrSt.upd {w wr w' : World} {g cap len c x : Nat} {V S : Nat → Nat} (h : WrSt w wr g cap len c V S) (hU : Upd (fun k => k = x) wr w') (h1 : x ≠ g) (h2 : x ≠ c) (h3 : w.heap.size ≤ x) : WrSt w w' g cap len c V S :=
  ⟨h.o.stay (hU.block g h.o.lt (fun e => h1 e.symm)), h.ci.stay hU.size (hU.block c h.ci.lt (fun e => h2 e.symm)), h.low.trans (hU.below (fun k hk e => by omega) h.low.size), h.gw, h.cw, h.s⟩
theorem upd_setCells {b : Nat} : ∀ (vs : List Value) (o : Nat) (w : World), Upd (fun k => k = b) w (w.setCells b o vs)
  | [], _, _ => Upd.refl _ _
  | v :: r, o, w => by
    have h1 : Upd (fun k => k = b) w (w.setCell ⟨b, o, none⟩ v) := (Upd.refl _ _).setCell ⟨b, o, none⟩ v (fun _ => rfl)
    exact h1.trans (upd_setCells r (o + 1) _) (fun _ _ h => h)
theorem WrSt.setO {w wr : World} {g cap len c : Nat} {V S : Nat → Nat} (h : WrSt w wr g cap len c V S) (hgc : g ≠ c) (o : Nat) (l : List Nat) (hl : ∀ x ∈ l, x < 256) : WrSt w (wr.setCells g o (u8l l)) g cap len c V (putAt S o l) := by
  have hU := upd_setCells (b := g) (u8l l) o wr
  refine ⟨h.o.setL o l, h.ci.stay hU.size (hU.block c h.ci.lt (fun e => hgc e.symm)), h.low.trans (hU.below (fun k hk e => by have := h.gw; omega) h.low.size), h.gw, h.cw, fun j => ?_⟩
  unfold putAt
  split
  · exact byt_lt hl _
  · exact h.s j
theorem wput_put {S x : Nat → Nat} {i : Nat} (hi : 1 ≤ i) : putAt (putAt S 0 (bytesOf x 8)) (8 * i) (bytesOf (fun j => x (8 + j)) 8) = wput S i x := by
  funext j
  unfold putAt wput
  simp only [length_bytesOf]
  by_cases h : j < 8
  · rw [if_neg (by omega), if_pos (by omega), if_pos h, Nat.sub_zero, byt_bytesOf _ h]
  · rw [if_neg h]
    by_cases h2 : 8 * i ≤ j ∧ j < 8 * i + 8
    · rw [if_pos h2, if_pos h2, byt_bytesOf _ (by omega)]; congr 1; omega
    · rw [if_neg h2, if_neg h2, if_neg (by omega)]
theorem wblk_put {S Z : Nat → Nat} {i : Nat} : ∀ j, j < 16 → putAt (putAt Z 0 (bytesOf S 8)) 8 (bytesOf (fun j => S (8 * i + j)) 8) j = wblk S i j := fun j hj => by
  unfold putAt wblk
  simp only [length_bytesOf]
  by_cases h : j < 8
  · rw [if_neg (by omega), if_pos (by omega), if_pos h, Nat.sub_zero, byt_bytesOf _ h]
  · rw [if_pos (by omega), if_neg h, byt_bytesOf _ (by omega)]

theorem step_copy_cells {P : Program} {o : Oper} {a : Act} {w : World} {K : Act → World → Prop} {Q : Exit → Act → World → Prop} (d s : Operand) (dT sT : TypeId)
    (ho : o.op = .call { callee := .builtin .copy, args := #[d, s], argTypes := #[dT, sT] }) (elem : TypeId) (hu : P.underlying dT = some (.slice elem)) (hsz : (P.info? elem).map (·.size) = some 1)
    (g off dLen dCap sLen sCap sb so : Nat) (hd : a.eval d = .slice (some ⟨g, off, none⟩) dLen dCap) (hs : a.eval s = .slice (some ⟨sb, so, none⟩) sLen sCap)
    (l : List Nat) (hn : l.length = Nat.min sLen dLen) (hsrc : ∀ j v, (u8l l)[j]? = some v → w.cell? (Addr.add ⟨sb, so, none⟩ j) = some v) (ht : w.there g off l.length)
    (h : K (a.put o.dst (goInt (u8l l).length)) (w.setCells g off (u8l l))) : o.wp P a w K Q :=
  wp_copy_cells d s dT sT ho elem hu hsz g off dLen dCap ⟨sb, so, none⟩ sLen sCap hd hs (u8l l) (by simp [u8l]; exact hn) hsrc (by simpa [u8l] using ht) (u8l_one l) h

theorem wpList_copy_cells {P : Program} {ops : Array Oper} {rest : List Oper} {o : Oper} {a : Act} {w : World} {Q : Exit → Act → World → Prop} (hw : Region.wanted o (yielded ops a.tmps) = true) (d s : Operand) (dT sT : TypeId)
    (ho : o.op = .call { callee := .builtin .copy, args := #[d, s], argTypes := #[dT, sT] }) (elem : TypeId) (hu : P.underlying dT = some (.slice elem)) (hsz : (P.info? elem).map (·.size) = some 1)
    (g off dLen dCap sLen sCap sb so : Nat) (hd : a.eval d = .slice (some ⟨g, off, none⟩) dLen dCap) (hs : a.eval s = .slice (some ⟨sb, so, none⟩) sLen sCap)
    (l : List Nat) (hn : l.length = Nat.min sLen dLen) (hsrc : ∀ j v, (u8l l)[j]? = some v → w.cell? (Addr.add ⟨sb, so, none⟩ j) = some v) (ht : w.there g off l.length)
    (h : wpList P ops Q rest (a.put o.dst (goInt (u8l l).length)) (w.setCells g off (u8l l))) : wpList P ops Q (o :: rest) a w :=
  wpList_step fun _ hK => by rw [if_pos hw]; exact step_copy_cells d s dT sT ho elem hu hsz g off dLen dCap sLen sCap sb so hd hs l hn hsrc ht (hK _ _ h)

/-- The first k bytes are 166. -/
def markTo (k : Nat) : Nat → Nat := fun j => if j < k then 166 else 0

set_option maxHeartbeats 4000000 in
set_option maxRecDepth 100000 in
theorem wrap_any (w : World) (key : List Nat) (hk : key.length = 32) (hs : ∀ x ∈ key, x < 256) (ao : Option Addr) (t : List Nat) (m cap : Nat) (em : t.length = m) (ht : TextAt w (.slice ao m cap) t) (hf : fitsB m 0 = true) :
    Calls Try.prog 42 #[.agg (u8s key), .slice ao m cap] w fun e w' => ∃ v, e = .returned (.tuple #[v, .int .i64 0]) ∧ TextAt w' v (wrapL (byt (wordsOf (byt key))) t) ∧ Below w.heap.size w w' := by
  obtain ⟨hm8, hm16, hm128⟩ := of_decide_eq_true hf
  obtain ⟨n, en⟩ : ∃ n, m = 8 * n := ⟨m / 8, by omega⟩
  have hV := words_lt (key := byt key) (byt_lt hs) 60
  obtain ⟨V, eV⟩ : ∃ V, V = byt (wordsOf (byt key)) := ⟨_, rfl⟩
  have hV' : ∀ i, V i < 256 := fun i => by rw [eV]; exact hV i
  have cf := Lib.hid (fits_any (w.alloc (.cells (u8s key) 23)) m 0 (by omega) (by decide))
  rw [hf] at cf
  have ek : (Try.prog.info? 23).map (·.size) = some (u8s key).size := by
    have e : (Try.prog.info? 23).map (·.size) = some 32 := by kernel_rfl
    rw [e]; simp [u8s, hk]
  have Rk : RowB (w.alloc (.cells (u8s key) 23)) w.heap.size 23 key := heap_alloc_new _ _
  have B0 : Below w.heap.size w (w.alloc (.cells (u8s key) 23)) := (Below.refl _ _).alloc (Nat.le_refl _) _
  have cn := Lib.hid (new_any (w.alloc (.cells (u8s key) 23)) key hk (byt_lt hs))
  rw [← eV] at cn
  have q1 : ((m : Int)) / 8 = ((n : Nat) : Int) := by omega
  have q2 : IntKind.i64.wrap (8 + (m : Int)) = ((8 + m : Nat) : Int) := by rw [IntWalk.i64_in _ (by omega)]; omega
  have q3 : wrap64 (n : Int) = (n : Int) := IntWalk.wrap64_in _ (by omega)
  have q4 : IntKind.i64.wrap (n : Int) = (n : Int) := IntWalk.i64_in _ (by omega)
  simp only [Int.natCast_zero] at cf
  replace em := Lib.hid em
  replace ht := Lib.hid ht
  replace hf := Lib.hid hf
  replace hm8 := Lib.hid hm8
  replace hm16 := Lib.hid hm16
  replace hm128 := Lib.hid hm128
  replace en := Lib.hid en
  replace hV := Lib.hid hV
  replace hV' := Lib.hid hV'
  replace eV := Lib.hid eV
  replace Rk := Lib.hid Rk
  replace B0 := Lib.hid B0
  have hrun8 := run_make_u8 8 (8 + m) (by omega) (by have := hm128.out; omega)
  simp only [Int.natCast_add, show ((8 : Nat) : Int) = 8 from rfl] at hrun8
  go_enter Try.func42, Try.ntmps42
  go_wp2_with fail
  go_step3
  go_wp2_with fail
  refine cf.out.mono ?_
  rintro e w0 ⟨rfl, rfl⟩
  go_wp2_with (refine wpList_load_b (by rfl) 23 (.tmp 2) rfl w.heap.size rfl 23 key Rk.out _ Try.underlying23 rfl ek ?_)
  refine cn.out.mono ?_
  rintro e w1 ⟨c, rfl, hc, C1, B1⟩
  have low1 := B0.out.trans (B1.mono B0.out.size)
  have hcw : w.heap.size ≤ c := by have := B0.out.size; omega
  have sz1 := low1.size
  have lc1 := C1.lt
  have o1 : BlkAt (w1.alloc (.cells (u8s (List.replicate (8 + m) 0)) 5)) w1.heap.size 5 (8 + m) 8 (markTo 0) := by
    refine ⟨⟨fun _ => .int .u8 0, ⟨u8s (List.replicate (8 + m) 0), heap_alloc_new _ _, by simp [u8s], fun i hi => by simp [u8s, hi]⟩, fun j hj => by unfold markTo; rw [if_neg (by omega)]; rfl⟩, by omega⟩
  have Ba : Below w1.heap.size w1 (w1.alloc (.cells (u8s (List.replicate (8 + m) 0)) 5)) := (Below.refl _ _).alloc (Nat.le_refl _) _
  have C2 := C1.below Ba (Nat.le_refl _)
  have low2 := low1.trans (Ba.mono sz1)
  have hgc : w1.heap.size ≠ c := by omega
  clear cf cn C1 B1 low1 Ba
  replace hc := Lib.hid hc
  replace C2 := Lib.hid C2
  replace low2 := Lib.hid low2
  replace o1 := Lib.hid o1
  replace hcw := Lib.hid hcw
  go_wp2_with fail
  clear hrun8
  generalize w1.heap.size = g at *
  have W0 : WrSt w (w1.alloc (.cells (u8s (List.replicate (8 + m) 0)) 5)) g (8 + m) 8 c V (markTo 0) := ⟨o1.out, C2.out, low2.out, sz1, hcw.out, fun j => by unfold markTo; split <;> decide⟩
  clear o1 C2 low2
  replace W0 := Lib.hid W0
  go_loopw [28] (fun iv wr => ∃ k : Nat, k ≤ 8 ∧ iv = .int .i64 k ∧ WrSt w wr g (8 + m) 8 c V (markTo k)) (fun iv _ => 8 - (intOf iv).toNat)
  case atStart => exact ⟨0, by decide, rfl, W0.out⟩
  case round =>
    obtain ⟨k, hk8, rfl, hW⟩ := hrel
    clear W0
    by_cases hlt : k < 8
    · have ck := hW.o.cell (j := k) (by omega)
      have fr := hW.o.froz k
      have nW : WrSt w (wr.setCell ⟨g, k, none⟩ (.int .u8 ((166 : Nat) : Int))) g (8 + m) 8 c V (markTo (k + 1)) := by
        have hU : Upd (fun i => i = g) wr (wr.setCell ⟨g, k, none⟩ (.int .u8 ((166 : Nat) : Int))) := (Upd.refl _ _).setCell ⟨g, k, none⟩ _ (fun _ => rfl)
        refine ⟨(hW.o.set k 166).congr fun j hj => ?_, hW.ci.stay hU.size (hU.block c hW.ci.lt (fun e => hgc e.symm)), hW.low.trans (hU.below (fun i hi e => by have := hW.gw; omega) hW.low.size), hW.gw, hW.cw, fun j => by unfold markTo; split <;> decide⟩
        unfold markTo
        by_cases e : j = k
        · subst e; rw [if_pos rfl, if_pos (by omega)]
        · rw [if_neg e]
          by_cases h2 : j < k
          · rw [if_pos h2, if_pos (by omega)]
          · rw [if_neg h2, if_neg (by omega)]
      simp only [show ((166 : Nat) : Int) = 166 from rfl] at nW
      have k8 : ((k : Int) < 8) := by omega
      replace hW := Lib.hid hW
      replace nW := Lib.hid nW
      go_wp2_with fail
      go_roundw
      case rel => exact ⟨k + 1, by omega, by go_num, nW.out⟩
      case measure => simp [intOf]; omega
    · obtain rfl : k = 8 := by omega
      simp only [show ((8 : Nat) : Int) = 8 from rfl]
      have O8 : Own wr w.heap.size 5 (.slice (some ⟨g, 0, none⟩) 8 (8 + m)) (u8l (List.replicate 8 166)) := by
        have h := hW.o.own hW.gw (by have := hm128.out; unfold maxLen; omega)
        rwa [show bytesOf (markTo 8) 8 = List.replicate 8 166 from rfl] at h
      have tx := ht.out.below hW.low
      obtain ⟨ob, oo, rfl⟩ : ∃ ob oo, ao = some ⟨ob, oo, none⟩ := by
        obtain ⟨ao', cap', e, _, _, hby⟩ := ht.out.ex
        rw [em.out] at e hby
        obtain ⟨_, ob, oo, e2, _⟩ := hby 0 (by have := hm16.out; omega)
        injection e with e1
        exact ⟨ob, oo, by rw [e1, e2]⟩
      replace hW := Lib.hid hW
      replace O8 := Lib.hid O8
      replace tx := Lib.hid tx
      go_wp2_with (refine wpList_append_fits (by rfl) (.tmp 35) (.tmp 36) rfl w.heap.size g (8 + m) 8 m (List.replicate 8 166) rfl rfl O8.out ob oo cap t em.out rfl tx.out (Nat.le_refl _) ?_; intro w2 O2 U2)
      have W2 : WrSt w w2 g (8 + m) (8 + m) c V (markF t) := by
        have hU := U2.out
        have lO : (List.replicate 8 166 ++ t).length = 8 + m := by rw [List.length_append, List.length_replicate, em.out]
        have o2 : BlkAt w2 g 5 (8 + m) (8 + m) (byt (List.replicate 8 166 ++ t)) := by
          have h := O2.out
          rw [← lO] at h
          have h := BlkAt.ofOwn h
          rwa [lO] at h
        exact ⟨o2, hW.out.ci.stay hU.size (hU.block c hW.out.ci.lt (fun e => hgc e.symm)), hW.out.low.trans (hU.below (fun i hi e => by have := hW.out.gw; omega) hW.out.low.size), hW.out.gw, hW.out.cw, mark_lt ht.out.small⟩
      clear O8 hW tx O2 U2
      replace W2 := Lib.hid W2
      go_wp2_with fail
      go_step3
      go_wp2_with fail
      have hcut8 := run_cut_h (P := Try.prog) Try.underlying25 infoU8s (some ⟨g, 0, none⟩) (8 + m) (8 + m) 8 (by omega) 8 rfl
      obtain ⟨S0, eS0⟩ : ∃ S0, S0 = markF t := ⟨_, rfl⟩
      rw [← eS0] at W2
      replace eS0 := Lib.hid eS0
      go_loopw [10] (fun tv wr => ∃ k : Nat, k ≤ 6 ∧ tv = .int .i64 k ∧ WrSt w wr g (8 + m) (8 + m) c V (wrapTo V S0 n (n * k))) (fun tv _ => 7 - (intOf tv).toNat)
      case atStart => exact ⟨0, by decide, rfl, W2.out⟩
      case round =>
        obtain ⟨k, hk6, rfl, hW⟩ := hrel
        clear W2
        replace hW := Lib.hid hW
        go_wp2_with fail
        obtain ⟨wq, rfl⟩ : ∃ wq : World, wq = wr := ⟨_, rfl⟩
        go_loopw [11] (fun iv wr => ∃ q I : Nat, q ≤ n ∧ I = q + 1 ∧ iv = .int .i64 I ∧ WrSt w wr g (8 + m) (8 + m) c V (wrapTo V S0 n (n * k + q)) ∧ (k < 6 ∨ q = 0)) (fun iv _ => n + 1 - (intOf iv).toNat)
        case atStart => exact ⟨0, 1, Nat.zero_le _, rfl, rfl, hW.out, .inr rfl⟩
        case round =>
          obtain ⟨q, I, hq, eI, rfl, hQ, hkq⟩ := hrel
          clear hW
          by_cases hlt : q < n
          · have dle : ((I : Int) ≤ (n : Int)) := by omega
            by_cases h6 : k < 6
            · have d6 : ¬ ((k : Int) = 6) := by omega
              obtain ⟨M, eM⟩ : ∃ M, M = n * k + q + 1 := ⟨_, rfl⟩
              have hnk : n * k ≤ 16 * 5 := Nat.mul_le_mul (by have := hm128.out; have := en.out; omega) (by omega)
              have hn16 : n ≤ 16 := by have := hm128.out; have := en.out; omega
              have hM : M < 4294967296 := by omega
              have f1 : IntKind.i64.wrap ((n : Int) * (k : Int)) = ((n * k : Nat) : Int) := by rw [IntWalk.i64_in _ (by rw [← Int.natCast_mul]; omega)]; simp
              have f2 : IntKind.i64.wrap (((n * k : Nat) : Int) + (I : Int)) = (M : Int) := by rw [IntWalk.i64_in _ (by omega)]; omega
              have f3 : IntKind.i64.wrap ((I : Int) * 8) = 8 * (I : Int) := by rw [IntWalk.i64_in _ (by omega)]; omega
              have h8I : 8 * I + 8 ≤ 8 + m := by have := en.out; omega
              have hcutI := run_cut_l (P := Try.prog) Try.underlying25 infoU8s (some ⟨g, 0, none⟩) (8 + m) (8 + m) (8 * I) (by omega) (8 * (I : Int)) (by omega)
              rw [cutA_some (by omega), Nat.zero_add] at hcutI
              have e1 : wrapTo V S0 n (n * k + (q + 1)) = wstep V (wrapTo V S0 n (n * k + q)) I M := by
                rw [← Nat.add_assoc, wrapTo_succ, show (n * k + q) % n = q by rw [Nat.mul_add_mod, Nat.mod_eq_of_lt hlt], ← eI, ← eM]
              obtain ⟨S, eS⟩ : ∃ S, S = wrapTo V S0 n (n * k + q) := ⟨_, rfl⟩
              rw [← eS] at hQ e1
              have X0 : BlkAt (wr.alloc (.cells #[.int .u8 0, .int .u8 0, .int .u8 0, .int .u8 0, .int .u8 0, .int .u8 0, .int .u8 0, .int .u8 0, .int .u8 0, .int .u8 0, .int .u8 0, .int .u8 0, .int .u8 0, .int .u8 0, .int .u8 0, .int .u8 0] 91)) wr.heap.size 91 16 16 (fun _ => 0) := BlkAt.ofRow (show RowB _ _ _ _ from heap_alloc_new _ _)
              have Q0 : WrSt w (wr.alloc (.cells #[.int .u8 0, .int .u8 0, .int .u8 0, .int .u8 0, .int .u8 0, .int .u8 0, .int .u8 0, .int .u8 0, .int .u8 0, .int .u8 0, .int .u8 0, .int .u8 0, .int .u8 0, .int .u8 0, .int .u8 0, .int .u8 0] 91)) g (8 + m) (8 + m) c V S := hQ.below ((Below.refl _ _).alloc (Nat.le_refl _) _)
              have hxg : wr.heap.size ≠ g := by have := hQ.o.lt; omega
              have hxc : wr.heap.size ≠ c := by have := hQ.ci.lt; omega
              have hwx : w.heap.size ≤ wr.heap.size := by have := hQ.low.size; omega
              have hI1 : 1 ≤ I := by omega
              have X1 : BlkAt (wr.alloc (.cells #[.int .u8 0, .int .u8 0, .int .u8 0, .int .u8 0, .int .u8 0, .int .u8 0, .int .u8 0, .int .u8 0, .int .u8 0, .int .u8 0, .int .u8 0, .int .u8 0, .int .u8 0, .int .u8 0, .int .u8 0, .int .u8 0] 91)).drew wr.heap.size 91 16 16 (fun _ => 0) := X0.stay rfl
              have Q1 : WrSt w (wr.alloc (.cells #[.int .u8 0, .int .u8 0, .int .u8 0, .int .u8 0, .int .u8 0, .int .u8 0, .int .u8 0, .int .u8 0, .int .u8 0, .int .u8 0, .int .u8 0, .int .u8 0, .int .u8 0, .int .u8 0, .int .u8 0, .int .u8 0] 91)).drew g (8 + m) (8 + m) c V S := Q0.below (Below.refl _ _).drew
              clear X0 Q0
              replace hkq := Lib.hid hkq
              replace hlt := Lib.hid hlt
              replace eI := Lib.hid eI
              replace eM := Lib.hid eM
              replace hnk := Lib.hid hnk
              replace hQ := Lib.hid hQ
              replace e1 := Lib.hid e1
              replace eS := Lib.hid eS
              replace X1 := Lib.hid X1
              replace Q1 := Lib.hid Q1
              replace hM := Lib.hid hM
              go_wp2_with fail
              generalize (wr.alloc (.cells #[.int .u8 0, .int .u8 0, .int .u8 0, .int .u8 0, .int .u8 0, .int .u8 0, .int .u8 0, .int .u8 0, .int .u8 0, .int .u8 0, .int .u8 0, .int .u8 0, .int .u8 0, .int .u8 0, .int .u8 0, .int .u8 0] 91)) = wa at *
              generalize wr.heap.size = x at *
              have r8 := run_arr_h (P := Try.prog) Try.underlying91 infoU8s x 8 (by decide) 8 rfl (by decide)
              have r8l : ∀ y, (Instr.sliceAt 91 (.pointer (some ⟨x, 0, none⟩)) (some (.int .i64 8)) none none).run Try.prog y = .ok (.slice (some ⟨x, 8, none⟩) 8 8) y := fun y => by kernel_rfl
              refine wp_region_held_drew (S := (fun _ => True)) (by kernel_rfl) (trivial) (fun hHeld => ?_)
              refine held_take (i := 0) (v := ?_) rfl (by kernel_rfl) (by kernel_rfl) (by kernel_rfl) (fun _ _ _ h => h) (Or.inl ⟨by rfl, ?_⟩) (by assumption) ?_
              rotate_left
              · intro w hSw; (try dsimp only at hSw); go_simp; try with_reducible rfl
              try simp only [Act.put, List.setIfInBounds_toArray, List.set_cons_zero, List.set_cons_succ]
              refine held_take (i := 1) (v := ?_) rfl (by kernel_rfl) (by kernel_rfl) (by kernel_rfl) (fun _ _ _ h => h) (Or.inl ⟨by rfl, ?_⟩) (by assumption) ?_
              rotate_left
              · intro w hSw; (try dsimp only at hSw); go_simp; try with_reducible rfl
              try simp only [Act.put, List.setIfInBounds_toArray, List.set_cons_zero, List.set_cons_succ]
              refine held_take (i := 2) (v := ?_) rfl (by kernel_rfl) (by kernel_rfl) (by kernel_rfl) (fun _ _ _ h => h) (Or.inl ⟨by rfl, ?_⟩) (by assumption) ?_
              rotate_left
              · intro w hSw; (try dsimp only at hSw); go_simp; try with_reducible rfl
              try simp only [Act.put, List.setIfInBounds_toArray, List.set_cons_zero, List.set_cons_succ]
              refine held_ready (i := 3) rfl (by kernel_rfl) (fun K hK => ?_)
              rw [if_pos (by rfl)]
              refine step_copy_cells (.tmp 47) (.tmp 49) 25 25 rfl 5 Try.underlying25 infoU8s x 0 16 16 8 (8 + m) g 0 rfl rfl (bytesOf S 8) (by simp) (Q1.out.o.src0 (n := 8) (by omega)) (by rw [length_bytesOf]; exact X1.out.there (o := 0) (n := 8) (by decide)) ?_
              refine hK.out _ _ (trivial) (fun hHeldN => ?_)
              clear hHeld hK K
              have hHeld := hHeldN
              clear hHeldN
              try simp only [Act.put, List.setIfInBounds_toArray, List.set_cons_zero, List.set_cons_succ]
              refine wpAnyH_done (by kernel_rfl) ?_ _
              clear hHeld
              have X2 := X1.out.setL 0 (bytesOf S 8)
              have Q2 := Q1.out.upd (upd_setCells (b := x) (u8l (bytesOf S 8)) 0 _) hxg hxc hwx
              generalize hwb : wa.drew.setCells x 0 (u8l (bytesOf S 8)) = wb at *
              have X2d : BlkAt wb.drew x 91 16 16 (putAt (fun _ => 0) 0 (bytesOf S 8)) := X2.stay rfl
              have Q2d : WrSt w wb.drew g (8 + m) (8 + m) c V S := Q2.below (Below.refl _ _).drew
              clear X1 Q1 hwb X2 Q2
              replace X2d := Lib.hid X2d
              replace Q2d := Lib.hid Q2d
              go_wp2_with fail
              refine wp_region_held_drew (S := (fun _ => True)) (by kernel_rfl) (trivial) (fun hHeld => ?_)
              refine held_take (i := 0) (v := ?_) rfl (by kernel_rfl) (by kernel_rfl) (by kernel_rfl) (fun _ _ _ h => h) (Or.inl ⟨by rfl, ?_⟩) (by assumption) ?_
              rotate_left
              · intro w hSw; (try dsimp only at hSw); go_simp; try with_reducible rfl
              try simp only [Act.put, List.setIfInBounds_toArray, List.set_cons_zero, List.set_cons_succ]
              refine held_take (i := 1) (v := ?_) rfl (by kernel_rfl) (by kernel_rfl) (by kernel_rfl) (fun _ _ _ h => h) (Or.inl ⟨by rfl, ?_⟩) (by assumption) ?_
              rotate_left
              · intro w hSw; (try dsimp only at hSw); go_simp; try with_reducible rfl
              try simp only [Act.put, List.setIfInBounds_toArray, List.set_cons_zero, List.set_cons_succ]
              refine held_take (i := 2) (v := ?_) rfl (by kernel_rfl) (by kernel_rfl) (by kernel_rfl) (fun _ _ _ h => h) (Or.inl ⟨by rfl, ?_⟩) (by assumption) ?_
              rotate_left
              · intro w hSw; (try dsimp only at hSw); go_simp; try with_reducible rfl
              try simp only [Act.put, List.setIfInBounds_toArray, List.set_cons_zero, List.set_cons_succ]
              refine held_take (i := 3) (v := ?_) rfl (by kernel_rfl) (by kernel_rfl) (by kernel_rfl) (fun _ _ _ h => h) (Or.inl ⟨by rfl, ?_⟩) (by assumption) ?_
              rotate_left
              · intro w hSw; (try dsimp only at hSw); go_simp; try with_reducible rfl
              try simp only [Act.put, List.setIfInBounds_toArray, List.set_cons_zero, List.set_cons_succ]
              refine held_take (i := 4) (v := ?_) rfl (by kernel_rfl) (by kernel_rfl) (by kernel_rfl) (fun _ _ _ h => h) (Or.inl ⟨by rfl, ?_⟩) (by assumption) ?_
              rotate_left
              · intro w hSw; (try dsimp only at hSw); go_simp; try with_reducible rfl
              try simp only [Act.put, List.setIfInBounds_toArray, List.set_cons_zero, List.set_cons_succ]
              refine held_ready (i := 5) rfl (by kernel_rfl) (fun K hK => ?_)
              rw [if_pos (by rfl)]
              refine step_copy_cells (.tmp 51) (.tmp 55) 25 25 rfl 5 Try.underlying25 infoU8s x 8 8 8 (8 + m - 8 * I) (8 + m - 8 * I) g (8 * I) rfl rfl (bytesOf (fun j => S (8 * I + j)) 8) (by rw [length_bytesOf]; exact (Nat.min_eq_right (by omega)).symm) (Q2d.out.o.src (o := 8 * I) (n := 8) (by omega)) (by rw [length_bytesOf]; exact X2d.out.there (o := 8) (n := 8) (by decide)) ?_
              refine hK.out _ _ (trivial) (fun hHeldN => ?_)
              clear hHeld hK K
              have hHeld := hHeldN
              clear hHeldN
              try simp only [Act.put, List.setIfInBounds_toArray, List.set_cons_zero, List.set_cons_succ]
              refine wpAnyH_done (by kernel_rfl) ?_ _
              clear hHeld
              have X3 := (X2d.out.setL 8 (bytesOf (fun j => S (8 * I + j)) 8)).congr (wblk_put (S := S) (i := I))
              have Q3 := Q2d.out.upd (upd_setCells (b := x) (u8l (bytesOf (fun j => S (8 * I + j)) 8)) 8 _) hxg hxc hwx
              generalize hwc : wb.drew.setCells x 8 (u8l (bytesOf (fun j => S (8 * I + j)) 8)) = wc at *
              clear X2d Q2d hwc
              have r3 := X3.row
              have i3 := info16 (wblk S I)
              have ct := Lib.hid (turn_any Q3.ci hV'.out (wblk S I) (wblk_lt Q3.s I))
              have bY := bytes_turn (W := V) hV'.out (wblk_lt Q3.s I)
              replace X3 := Lib.hid X3
              replace Q3 := Lib.hid Q3
              replace bY := Lib.hid bY
              replace r3 := Lib.hid r3
              go_wp2_with (refine wpList_load_b (by rfl) 91 (.tmp 12) rfl x rfl 91 (tab (wblk S I)) ?hh _ Try.underlying91 rfl i3 ?_; case hh => exact r3.out)
              refine ct.out.mono ?_
              clear ct
              rintro e wd ⟨rfl, Bd⟩
              have X4 := X3.out.below Bd X3.out.lt
              have Q4 := Q3.out.below Bd
              have r4 := X4.row
              clear X3 Q3 r3 Bd
              obtain ⟨Y, eY⟩ : ∃ Y, Y = turnF V (wblk S I) := ⟨_, rfl⟩
              rw [← eY] at bY ⊢
              have i4 := info16 Y
              replace X4 := Lib.hid X4
              replace Q4 := Lib.hid Q4
              replace r4 := Lib.hid r4
              replace eY := Lib.hid eY
              go_wp2_with (refine wpList_store_s (by rfl) 91 (.tmp 12) (.tmp 59) rfl x (tab Y) rfl rfl 91 _ r4.out i4 (by rw [size_tab, size_tab]) ?_; intro we Re Ue)
              have X5 : BlkAt we x 91 16 16 Y := BlkAt.ofRow Re.out
              have Q5 := Q4.out.upd Ue.out hxg hxc hwx
              clear X4 Q4 r4 Re Ue
              replace Q5 := Lib.hid Q5
              rw [wrap_idx (n := n) (k := k) (I := I) (M := M) (by rw [eM.out, eI.out, Nat.add_assoc]) hM.out]
              refine (mix_any we x 91 M Y X5 bY.out hM.out).mono ?_
              rintro e wf ⟨rfl, X6, U6⟩
              have Q6 := Q5.out.upd U6 hxg hxc hwx
              have eZ : wput S I (wmix Y M) = wstep V S I M := by rw [wstep_def, ← eY.out]
              have bZ := wmix_lt bY.out M
              clear X5 U6 Q5
              generalize wmix Y M = Z at *
              clear f1 f2
              have bZ1 : ∀ v ∈ bytesOf Z 8, v < 256 := bytesOf_lt fun i hi => bZ i (by omega)
              have bZ2 : ∀ v ∈ bytesOf (fun j => Z (8 + j)) 8, v < 256 := bytesOf_lt fun i hi => bZ (8 + i) (by omega)
              replace X6 := Lib.hid X6
              replace Q6 := Lib.hid Q6
              replace eZ := Lib.hid eZ
              replace bZ := Lib.hid bZ
              replace bZ1 := Lib.hid bZ1
              replace bZ2 := Lib.hid bZ2
              replace bY := Lib.hid bY
              go_wp2_with (refine wpList_copy_cells (by rfl) (.tmp 67) (.tmp 68) 25 25 rfl 5 Try.underlying25 infoU8s g 0 (8 + m) (8 + m) 8 16 x 0 rfl rfl (bytesOf Z 8) ?h1 ?h2 ?h3 ?_; case h1 => rw [length_bytesOf]; exact (Nat.min_eq_left (by omega)).symm
                           case h2 => exact X6.out.src0 (n := 8) (by decide)
                           case h3 => rw [length_bytesOf]; exact Q6.out.o.there (o := 0) (n := 8) (by omega))
              have Q7 := Q6.out.setO hgc 0 (bytesOf Z 8) bZ1.out
              have X7 := X6.out.stay ((upd_setCells (b := g) (u8l (bytesOf Z 8)) 0 wf).block x X6.out.lt hxg)
              generalize hwg : wf.setCells g 0 (u8l (bytesOf Z 8)) = wg at *
              have X7d : BlkAt wg.drew x 91 16 16 Z := X7.stay rfl
              have Q7d : WrSt w wg.drew g (8 + m) (8 + m) c V (putAt S 0 (bytesOf Z 8)) := Q7.below (Below.refl _ _).drew
              clear X6 Q6 hwg X7 Q7
              replace X7d := Lib.hid X7d
              replace Q7d := Lib.hid Q7d
              refine wp_region_held_drew (S := (fun _ => True)) (by kernel_rfl) (trivial) (fun hHeld => ?_)
              refine held_take (i := 0) (v := ?_) rfl (by kernel_rfl) (by kernel_rfl) (by kernel_rfl) (fun _ _ _ h => h) (Or.inl ⟨by rfl, ?_⟩) (by assumption) ?_
              rotate_left
              · intro w hSw; (try dsimp only at hSw); go_simp; try with_reducible rfl
              try simp only [Act.put, List.setIfInBounds_toArray, List.set_cons_zero, List.set_cons_succ]
              refine held_take (i := 1) (v := ?_) rfl (by kernel_rfl) (by kernel_rfl) (by kernel_rfl) (fun _ _ _ h => h) (Or.inl ⟨by rfl, ?_⟩) (by assumption) ?_
              rotate_left
              · intro w hSw; (try dsimp only at hSw); go_simp; try with_reducible rfl
              try simp only [Act.put, List.setIfInBounds_toArray, List.set_cons_zero, List.set_cons_succ]
              refine held_take (i := 2) (v := ?_) rfl (by kernel_rfl) (by kernel_rfl) (by kernel_rfl) (fun _ _ _ h => h) (Or.inl ⟨by rfl, ?_⟩) (by assumption) ?_
              rotate_left
              · intro w hSw; (try dsimp only at hSw); go_simp; try with_reducible rfl
              try simp only [Act.put, List.setIfInBounds_toArray, List.set_cons_zero, List.set_cons_succ]
              refine held_take (i := 3) (v := ?_) rfl (by kernel_rfl) (by kernel_rfl) (by kernel_rfl) (fun _ _ _ h => h) (Or.inl ⟨by rfl, ?_⟩) (by assumption) ?_
              rotate_left
              · intro w hSw; (try dsimp only at hSw); go_simp; try with_reducible rfl
              try simp only [Act.put, List.setIfInBounds_toArray, List.set_cons_zero, List.set_cons_succ]
              refine held_take (i := 4) (v := ?_) rfl (by kernel_rfl) (by kernel_rfl) (by kernel_rfl) (fun _ _ _ h => h) (Or.inl ⟨by rfl, ?_⟩) (by assumption) ?_
              rotate_left
              · intro w hSw; (try dsimp only at hSw); go_simp; try with_reducible rfl
              try simp only [Act.put, List.setIfInBounds_toArray, List.set_cons_zero, List.set_cons_succ]
              refine held_ready (i := 5) rfl (by kernel_rfl) (fun K hK => ?_)
              rw [if_pos (by rfl)]
              refine step_copy_cells (.tmp 73) (.tmp 74) 25 25 rfl 5 Try.underlying25 infoU8s g (8 * I) (8 + m - 8 * I) (8 + m - 8 * I) 8 8 x 8 rfl rfl (bytesOf (fun j => Z (8 + j)) 8) (by rw [length_bytesOf]; exact (Nat.min_eq_left (by omega)).symm) (X7d.out.src (o := 8) (n := 8) (by decide)) (by rw [length_bytesOf]; exact Q7d.out.o.there (o := 8 * I) (n := 8) (by omega)) ?_
              refine hK.out _ _ (trivial) (fun hHeldN => ?_)
              clear hHeld hK K
              have hHeld := hHeldN
              clear hHeldN
              try simp only [Act.put, List.setIfInBounds_toArray, List.set_cons_zero, List.set_cons_succ]
              refine wpAnyH_done (by kernel_rfl) ?_ _
              clear hHeld
              have Q8 := Q7d.out.setO hgc (8 * I) (bytesOf (fun j => Z (8 + j)) 8) bZ2.out
              rw [wput_put hI1, eZ.out, ← e1.out] at Q8
              replace Q8 := Lib.hid Q8
              go_wp2_with fail
              go_roundw
              case rel => exact ⟨q + 1, I + 1, by have := hlt.out; omega, by rw [eI.out], by go_num, Q8.out, .inl h6⟩
              case measure => simp [intOf]; omega
            · obtain rfl : k = 6 := by omega
              have q0 : q = 0 := by omega
              simp only [show ((6 : Nat) : Int) = 6 from rfl]
              subst q0
              have hO := hQ.o.own (base := w.heap.size) hQ.gw (by have := hm128.out; unfold maxLen; omega)
              have hT := hO.text (bytesOf_lt (fun i _ => hQ.s i))
              have e0 : bytesOf (wrapTo V S0 n (n * 6 + 0)) (8 + m) = wrapL (byt (wordsOf (byt key))) t := by
                unfold wrapL
                rw [em.out, ← eV.out, ← eS0.out, show m / 8 = n by have := en.out; omega, show n * 6 + 0 = 6 * n by omega, Nat.add_comm 8 m]
              rw [e0] at hT
              have low := hQ.low
              replace hQ := Lib.hid hQ
              replace hO := Lib.hid hO
              replace hT := Lib.hid hT
              replace low := Lib.hid low
              replace e0 := Lib.hid e0
              go_wp2_with fail
              go_ret2
              exact ⟨_, rfl, hT.out, low.out⟩
          · obtain rfl : q = n := by omega
            have dle : ¬ ((I : Int) ≤ (q : Int)) := by omega
            have hk : k < 6 := wrap_left hkq hm16.out en.out
            have e0 : q * k + q = q * (k + 1) := by rw [Nat.mul_succ]
            rw [e0] at hQ
            replace hQ := Lib.hid hQ
            replace e0 := Lib.hid e0
            go_wp2_with fail
            go_roundw
            case rel => exact ⟨k + 1, by omega, by go_num, hQ.out⟩
            case measure => simp [intOf]; omega
end Go.Proofs.Ytecmagenlbnchaa
