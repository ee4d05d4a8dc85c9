/-
  The law XtsBlocks. Condition: keys of 32 bytes, a tweak of 16; texts.
-/
import Derived.Test.YtnadgjlmlnhknaaLaw06
namespace Go.Proofs.Ytnadgjlmlnhknaa
open Go.RowKit

theorem seg_tab {l : List Nat} {p : Nat} (h : p + 16 ≤ l.length) : (l.drop p).take 16 = tab (fun i => byt l (p + i)) := by
  apply List.ext_getElem?
  intro i
  by_cases hi : i < 16
  · rw [tab_get _ hi, List.getElem?_take, if_pos hi, List.getElem?_drop]
    simp [byt, List.getD, show p + i < l.length by omega]
  · rw [List.getElem?_eq_none (by simp; omega), List.getElem?_eq_none (by rw [length_tab]; omega)]
theorem seg_small {l : List Nat} (h : ∀ x ∈ l, x < 256) (p : Nat) : ∀ x ∈ (l.drop p).take 16, x < 256 := fun x hx => h x (List.mem_of_mem_drop (List.mem_of_mem_take hx))
/-- Blocks are turned to unlike ones just where they are unlike. -/
theorem sec_apart {E : (Nat → Nat) → Nat → Nat} (hE : ∀ x y, Same16 x y → Same16 (E x) (E y)) (hI : ∀ x y, Bytes16 x → Bytes16 y → Same16 (E x) (E y) → Same16 x y) {m : Nat → Nat} (hm : Bytes16 m) {a b : List Nat} {n k : Nat} (la : a.length = n) (lb : b.length = n) (sa : ∀ x ∈ a, x < 256) (sb : ∀ x ∈ b, x < 256) (hk : 16 * k + 16 ≤ n) :
    (((bytesOf (sec E m (byt a)) n).drop (16 * k)).take 16 == ((bytesOf (sec E m (byt b)) n).drop (16 * k)).take 16) = ((a.drop (16 * k)).take 16 == (b.drop (16 * k)).take 16) := by
  have seg : ∀ l : List Nat, (∀ x ∈ l, x < 256) → ((bytesOf (sec E m (byt l)) n).drop (16 * k)).take 16 = tab (under E (maskTo m k) (blk (byt l) k)) := fun l _ => by
    rw [seg_tab (by rw [length_bytesOf]; exact hk)]
    refine tab_ext fun i hi => ?_
    rw [byt_bytesOf _ (by omega)]
    exact sec_blk E m (byt l) k i hi
  rw [seg a sa, seg b sb, seg_tab (by rw [la]; exact hk), seg_tab (by rw [lb]; exact hk), Bool.eq_iff_iff, beq_iff_eq, beq_iff_eq]
  constructor
  · intro h
    have h1 := xor16_same (same_tab h) (maskTo m k)
    unfold under at h1
    rw [xor16_twice, xor16_twice] at h1
    have h2 := hI _ _ (xor16_lt (fun i _ => byt_lt sa _) (maskTo_lt hm k)) (xor16_lt (fun i _ => byt_lt sb _) (maskTo_lt hm k)) h1
    have h3 := xor16_same h2 (maskTo m k)
    rw [xor16_twice, xor16_twice] at h3
    exact tab_eq h3
  · intro h
    exact tab_eq (under_same hE (same_tab h))

set_option maxHeartbeats 4000000 in
set_option maxRecDepth 100000 in
theorem lxblocks_any (w : World) (k1 k2 ltw : List Nat) (h1 : k1.length = 32) (s1 : ∀ x ∈ k1, x < 256) (h2 : k2.length = 32) (s2 : ∀ x ∈ k2, x < 256) (h3 : ltw.length = 16) (s3 : ∀ x ∈ ltw, x < 256) (aa : Option Addr) (la : List Nat) (n ca : Nat) (ea : la.length = n) (hla : TextAt w (.slice aa n ca) la) (hn : n < 9223372036854775808) (ab : Option Addr) (lb : List Nat) (m cb : Nat) (eb : lb.length = m) (hlb : TextAt w (.slice ab m cb) lb) (hm : m < 9223372036854775808) :
    Calls Try.prog 11 #[.agg (u8s k1), .agg (u8s k2), .agg (u8s ltw), .slice aa n ca, .slice ab m cb] w fun e w' => e = .returned (.bool true) ∧ Below w.heap.size w w' := by
  obtain ⟨tw, etw⟩ : ∃ tw, tw = byt ltw := ⟨_, rfl⟩
  have ht : Bytes16 tw := fun i _ => by rw [etw]; exact byt_lt s3 i
  rw [show ltw = tab tw by rw [etw, tab_byt h3]]
  clear etw s3 h3
  have r0 : RowB (w.alloc (.cells (u8s k1) 23)) w.heap.size 23 k1 := heap_alloc_new _ _
  have r1 : RowB ((w.alloc (.cells (u8s k1) 23)).alloc (.cells (u8s k2) 23)) (w.heap.size + 1) 23 k2 := by
    rw [show w.heap.size + 1 = (w.alloc (.cells (u8s k1) 23)).heap.size by simp]; exact heap_alloc_new _ _
  have q2 : RowB (((w.alloc (.cells (u8s k1) 23)).alloc (.cells (u8s k2) 23)).alloc (.cells (u8s (tab tw)) 24)) (w.heap.size + 2) 24 (tab tw) := by
    rw [show w.heap.size + 2 = ((w.alloc (.cells (u8s k1) 23)).alloc (.cells (u8s k2) 23)).heap.size by simp]; exact heap_alloc_new _ _
  have q0 := (r0.alloc (.cells (u8s k2) 23)).alloc (.cells (u8s (tab tw)) 24)
  have q1 := r1.alloc (.cells (u8s (tab tw)) 24)
  have low : Below w.heap.size w (((w.alloc (.cells (u8s k1) 23)).alloc (.cells (u8s k2) 23)).alloc (.cells (u8s (tab tw)) 24)) := (((Below.refl _ _).alloc (Nat.le_refl _) _).alloc (by simp) _).alloc (by simp; omega) _
  have ta := hla.below low
  have tb := hlb.below low
  have i1 := info32 h1
  have i2 := info32 h2
  have it := info16' tw
  have hV : ∀ i, byt (wordsOf (byt k1)) i < 256 := words_lt (byt_small s1) 60
  have hW : ∀ i, byt (wordsOf (byt k2)) i < 256 := words_lt (byt_small s2) 60
  have cn := Lib.hid (fun wx => xnew_any wx k1 k2 h1 s1 h2 s2)
  generalize byt (wordsOf (byt k1)) = V at *
  generalize byt (wordsOf (byt k2)) = W at *
  clear r0 r1
  replace hV := Lib.hid hV
  replace hW := Lib.hid hW
  replace low := Lib.hid low
  replace ta := Lib.hid ta
  replace tb := Lib.hid tb
  replace hla := Lib.hid hla
  replace hlb := Lib.hid hlb
  replace s1 := Lib.hid s1
  replace s2 := Lib.hid s2
  replace ht := Lib.hid ht
  by_cases hg : n ≤ 600 ∧ n = m ∧ n ≠ 0 ∧ n % 16 = 0
  · obtain ⟨g1, rfl, g3, g4⟩ := hg
    have hs : sectorB n = true := decide_eq_true ⟨g3, g4, by omega⟩
    have d1 : decide ((n : Int) > 600) = false := decide_eq_false (by omega)
    have d0 : ((n : Int) == 0) = false := beq_eq_false_iff_ne.2 (by omega)
    have dm : ((n : Int)).tmod 16 = 0 := by rw [Int.tmod_eq_emod_of_nonneg (by omega)]; omega
    have ct := fun wx b (hx : XtsAt wx b V W) ao' (l' : List Nat) cap' (e' : l'.length = n) (t' : TextAt wx (.slice ao' n cap') l') => xturn_ok wx b V W hx hV.out hW.out tw ht.out ao' l' n cap' e' t' hs
    have bM := bytes_turn hW.out ht.out
    generalize turnF W tw = M at *
    have sa : ∀ x ∈ la, x < 256 := hla.out.small
    have sb : ∀ x ∈ lb, x < 256 := hlb.out.small
    have sX : ∀ x ∈ bytesOf (sec (turnF V) M (byt la)) n, x < 256 := bytesOf_lt fun i _ => sec_lt (fun x hx => bytes_turn hV.out hx) bM (byt_lt sa) i
    have sY : ∀ x ∈ bytesOf (sec (turnF V) M (byt lb)) n, x < 256 := bytesOf_lt fun i _ => sec_lt (fun x hx => bytes_turn hV.out hx) bM (byt_lt sb) i
    have lX : (bytesOf (sec (turnF V) M (byt la)) n).length = n := length_bytesOf _ _
    have lY : (bytesOf (sec (turnF V) M (byt lb)) n).length = n := length_bytesOf _ _
    have hap : ∀ k, 16 * k + 16 ≤ n → (((bytesOf (sec (turnF V) M (byt la)) n).drop (16 * k)).take 16 == ((bytesOf (sec (turnF V) M (byt lb)) n).drop (16 * k)).take 16) = ((la.drop (16 * k)).take 16 == (lb.drop (16 * k)).take 16) := fun k hk =>
      sec_apart (fun x y h => same_turn h) (fun x y hx hy h => turn_inj hV.out hx hy h) bM ea eb sa sb hk
    have c1 := fun wx b hx t' => ct wx b hx aa la ca ea t'
    have c2 := fun wx b hx t' => ct wx b hx ab lb cb eb t'
    clear ct hs
    generalize bytesOf (sec (turnF V) M (byt la)) n = X at *
    generalize bytesOf (sec (turnF V) M (byt lb)) n = Y at *
    replace g1 := Lib.hid g1
    replace g3 := Lib.hid g3
    replace g4 := Lib.hid g4
    replace bM := Lib.hid bM
    replace sa := Lib.hid sa
    replace sb := Lib.hid sb
    replace sX := Lib.hid sX
    replace sY := Lib.hid sY
    replace lX := Lib.hid lX
    replace lY := Lib.hid lY
    replace c1 := Lib.hid c1
    replace c2 := Lib.hid c2
    replace ea := Lib.hid ea
    replace eb := Lib.hid eb
    replace hap := Lib.hid hap
    go_enter Try.func11, Try.ntmps11
    go_wp2_with (first
      | (refine wpList_load_b (by rfl) 23 (.tmp 5) rfl w.heap.size rfl 23 k1 q0 _ Try.underlying23 rfl i1 ?_)
      | (refine wpList_load_b (by rfl) 23 (.tmp 6) rfl (w.heap.size + 1) rfl 23 k2 q1 _ Try.underlying23 rfl i2 ?_))
    refine (cn.out _).mono ?_
    rintro e w1 ⟨b, rfl, hb0, hX, B1⟩
    have low1 := low.out.trans (B1.mono low.out.size)
    have ta1 := ta.out.below B1
    have tb1 := tb.out.below B1
    have p1 := q2.below B1 q2.lt
    clear cn q0 q1
    replace hb0 := Lib.hid hb0
    replace hX := Lib.hid hX
    replace B1 := Lib.hid B1
    replace low1 := Lib.hid low1
    replace ta1 := Lib.hid ta1
    replace tb1 := Lib.hid tb1
    go_wp2_with (refine wpList_load_b (by rfl) 24 (.tmp 7) rfl (w.heap.size + 2) rfl 24 (tab tw) p1 _ Try.underlying24 rfl it ?_)
    refine (c1.out _ _ hX.out ta1.out).mono ?_
    rintro e w3 ⟨v3, rfl, o3, B3⟩
    have hX3 := hX.out.below B3
    have low3 := low1.out.trans (B3.mono low1.out.size)
    have ta3 := ta1.out.below B3
    have tb3 := tb1.out.below B3
    have p3 := p1.below B3 p1.lt
    have x3 := o3.text sX.out
    obtain ⟨a3, cx, e3, g3x⟩ := x3.ex
    rw [lX.out] at e3
    subst e3
    clear p1
    replace hX3 := Lib.hid hX3
    replace low3 := Lib.hid low3
    replace ta3 := Lib.hid ta3
    replace tb3 := Lib.hid tb3
    replace x3 := Lib.hid x3
    replace B3 := Lib.hid B3
    replace o3 := Lib.hid o3
    replace g3x := Lib.hid g3x
    go_wp2_with (refine wpList_load_b (by rfl) 24 (.tmp 7) rfl (w.heap.size + 2) rfl 24 (tab tw) p3 _ Try.underlying24 rfl it ?_)
    refine (c2.out _ _ hX3.out tb3.out).mono ?_
    rintro e w4 ⟨v4, rfl, o4, B4⟩
    have low4 := low3.out.trans (B4.mono low3.out.size)
    have ta4 := ta3.out.below B4
    have tb4 := tb3.out.below B4
    have x4 := x3.out.below B4
    have y4 := o4.text sY.out
    obtain ⟨a4, cy, e4, g4x⟩ := y4.ex
    rw [lY.out] at e4
    subst e4
    clear p3 q2
    replace low4 := Lib.hid low4
    replace ta4 := Lib.hid ta4
    replace tb4 := Lib.hid tb4
    replace x4 := Lib.hid x4
    replace y4 := Lib.hid y4
    replace B4 := Lib.hid B4
    replace o4 := Lib.hid o4
    replace g4x := Lib.hid g4x
    go_wp2_with fail
    go_loopw [16] (fun iv wr => ∃ k a : Nat, 16 * k ≤ n ∧ a = 16 * k ∧ iv = .int .i64 a ∧ Below w4.heap.size w4 wr) (fun iv _ => n - (intOf iv).toNat)
    case atStart => exact ⟨0, 0, Nat.zero_le _, rfl, rfl, Below.refl _ _⟩
    case round =>
      obtain ⟨k, a, hk, eak, rfl, Br⟩ := hrel
      by_cases hlt : a < n
      · have h16 : a + 16 ≤ n := by have := g4.out; omega
        have h600 := g1.out
        have d : decide ((a : Int) < (n : Int)) = true := decide_eq_true (by omega)
        have dn : decide (a < n) = true := decide_eq_true hlt
        have f0 : IntKind.i64.wrap ((a : Int) + 16) = (a : Int) + 16 := IntWalk.i64_in _ (by omega)
        have f1 : (0 : Int) ≤ (a : Int) + 16 := by omega
        have cut := fun (ao : Option Addr) (cap : Nat) (hc : n ≤ cap) => run_cut_lh (P := Try.prog) Try.underlying29 infoU8s ao n cap a (a + 16) (by omega) (by omega) (a : Int) ((a : Int) + 16) rfl (by omega)
        simp only [show a + 16 - a = 16 by omega] at cut
        have seg : ∀ (wx : World) (ao : Option Addr) (cap : Nat) (l : List Nat), l.length = n → TextAt wx (.slice ao n cap) l → n ≤ cap ∧ TextAt wx (.slice (cutA ao cap a) 16 (cap - a)) ((l.drop a).take 16) := fun wx ao cap l el tl => by
          have h5 := TextAt.cut (t := l) (ao := ao) (cap := cap) (lo := a) (hi := a + 16) (by rw [el]; exact tl) (by omega) (by omega)
          rw [show a + 16 - a = 16 by omega] at h5
          obtain ⟨ao', cap', e, hc, _⟩ := tl.ex
          rw [el] at e hc
          injection e with _ _ e3
          exact ⟨by omega, h5⟩
        have Ta := seg wr.drew aa ca la ea.out ((ta4.out.below Br).drew)
        have Tb := seg wr.drew ab cb lb eb.out ((tb4.out.below Br).drew)
        have Tx := seg wr.drew a3 cx X lX.out ((x4.out.below Br).drew)
        have Ty := seg wr.drew a4 cy Y lY.out ((y4.out.below Br).drew)
        have k1 := cut aa ca Ta.1
        have k2 := cut ab cb Tb.1
        have k3 := cut a3 cx Tx.1
        have k4 := cut a4 cy Ty.1
        have hA := hap.out k (by omega)
        rw [← eak] at hA
        have e1 := str_lst (seg_small sa.out a) (seg_small sb.out a)
        have e2 := str_dec (seg_small sa.out a) (seg_small sb.out a)
        have e3 := str_lst (seg_small sX.out a) (seg_small sY.out a)
        have e4 := str_dec (seg_small sX.out a) (seg_small sY.out a)
        rw [hA] at e3 e4
        replace Ta := Ta.2
        replace Tb := Tb.2
        replace Tx := Tx.2
        replace Ty := Ty.2
        clear cut seg hA
        generalize (la.drop a).take 16 = Sa at *
        generalize (lb.drop a).take 16 = Sb at *
        generalize (X.drop a).take 16 = Sx at *
        generalize (Y.drop a).take 16 = Sy at *
        generalize (Sa == Sb) = bq at *
        replace Br := Lib.hid Br
        replace eak := Lib.hid eak
        replace hk := Lib.hid hk
        replace h16 := Lib.hid h16
        replace h600 := Lib.hid h600
        go_wp2_with fail
        refine wp_region_held_drew (S := (fun w' => TextAt w' (.slice (cutA aa ca a) 16 (ca - a)) Sa ∧ TextAt w' (.slice (cutA ab cb a) 16 (cb - a)) Sb ∧ TextAt w' (.slice (cutA a3 cx a) 16 (cx - a)) Sx ∧ TextAt w' (.slice (cutA a4 cy a) 16 (cy - a)) Sy)) (by kernel_rfl) (⟨Ta, Tb, Tx, Ty⟩) (fun hHeld => ?_)
        refine held_take (i := 0) (v := ?_) rfl (by kernel_rfl) (by kernel_rfl) (by kernel_rfl) (fun _ _ _ h => h) (Or.inl ⟨by rfl, ?_⟩) (by assumption) ?_
        rotate_left
        · intro w hSw; (try dsimp only at hSw); go_simp; try with_reducible rfl
        try simp only [Act.put, List.setIfInBounds_toArray, List.set_cons_zero, List.set_cons_succ]
        refine held_take (i := 1) (v := ?_) rfl (by kernel_rfl) (by kernel_rfl) (by kernel_rfl) (fun _ _ _ h => h) (Or.inl ⟨by rfl, ?_⟩) (by assumption) ?_
        rotate_left
        · intro w hSw; (try dsimp only at hSw); go_simp; try with_reducible rfl
        try simp only [Act.put, List.setIfInBounds_toArray, List.set_cons_zero, List.set_cons_succ]
        refine held_take (i := 2) (v := ?_) rfl (by kernel_rfl) (by kernel_rfl) (by kernel_rfl) (fun _ _ _ h => h) (Or.inl ⟨by rfl, ?_⟩) (by assumption) ?_
        rotate_left
        · intro w hSw; (try dsimp only at hSw); go_simp; try with_reducible rfl
        try simp only [Act.put, List.setIfInBounds_toArray, List.set_cons_zero, List.set_cons_succ]
        refine held_take (i := 3) (v := ?_) rfl (by kernel_rfl) (by kernel_rfl) (by kernel_rfl) (fun _ _ _ h => h) (Or.inl ⟨by rfl, ?_⟩) (by assumption) ?_
        rotate_left
        · intro w hSw; (try dsimp only at hSw); go_simp; try with_reducible rfl
        try simp only [Act.put, List.setIfInBounds_toArray, List.set_cons_zero, List.set_cons_succ]
        refine held_take (i := 4) (v := ?_) rfl (by kernel_rfl) (by kernel_rfl) (by kernel_rfl) (fun _ _ _ h => h) (Or.inl ⟨by rfl, ?_⟩) (by assumption) ?_
        rotate_left
        · intro w hSw; (try dsimp only at hSw); go_simp; try with_reducible rfl
        try simp only [Act.put, List.setIfInBounds_toArray, List.set_cons_zero, List.set_cons_succ]
        refine held_take (i := 5) (v := _) rfl (by kernel_rfl) (by kernel_rfl) (by kernel_rfl) (fun _ _ _ h => h) (yieldsIf_str (by rfl) rfl rfl (v := .slice (cutA aa ca a) 16 (ca - a)) (fun w' h => h.1)) (by assumption) ?_
        try simp only [Act.put, List.setIfInBounds_toArray, List.set_cons_zero, List.set_cons_succ]
        refine held_take (i := 6) (v := ?_) rfl (by kernel_rfl) (by kernel_rfl) (by kernel_rfl) (fun _ _ _ h => h) (Or.inl ⟨by rfl, ?_⟩) (by assumption) ?_
        rotate_left
        · intro w hSw; (try dsimp only at hSw); go_simp; try with_reducible rfl
        try simp only [Act.put, List.setIfInBounds_toArray, List.set_cons_zero, List.set_cons_succ]
        refine held_take (i := 7) (v := ?_) rfl (by kernel_rfl) (by kernel_rfl) (by kernel_rfl) (fun _ _ _ h => h) (Or.inl ⟨by rfl, ?_⟩) (by assumption) ?_
        rotate_left
        · intro w hSw; (try dsimp only at hSw); go_simp; try with_reducible rfl
        try simp only [Act.put, List.setIfInBounds_toArray, List.set_cons_zero, List.set_cons_succ]
        refine held_take (i := 8) (v := ?_) rfl (by kernel_rfl) (by kernel_rfl) (by kernel_rfl) (fun _ _ _ h => h) (Or.inl ⟨by rfl, ?_⟩) (by assumption) ?_
        rotate_left
        · intro w hSw; (try dsimp only at hSw); go_simp; try with_reducible rfl
        try simp only [Act.put, List.setIfInBounds_toArray, List.set_cons_zero, List.set_cons_succ]
        refine held_take (i := 9) (v := ?_) rfl (by kernel_rfl) (by kernel_rfl) (by kernel_rfl) (fun _ _ _ h => h) (Or.inl ⟨by rfl, ?_⟩) (by assumption) ?_
        rotate_left
        · intro w hSw; (try dsimp only at hSw); go_simp; try with_reducible rfl
        try simp only [Act.put, List.setIfInBounds_toArray, List.set_cons_zero, List.set_cons_succ]
        refine held_take (i := 10) (v := ?_) rfl (by kernel_rfl) (by kernel_rfl) (by kernel_rfl) (fun _ _ _ h => h) (Or.inl ⟨by rfl, ?_⟩) (by assumption) ?_
        rotate_left
        · intro w hSw; (try dsimp only at hSw); go_simp; try with_reducible rfl
        try simp only [Act.put, List.setIfInBounds_toArray, List.set_cons_zero, List.set_cons_succ]
        refine held_take (i := 11) (v := _) rfl (by kernel_rfl) (by kernel_rfl) (by kernel_rfl) (fun _ _ _ h => h) (yieldsIf_str (by rfl) rfl rfl (v := .slice (cutA ab cb a) 16 (cb - a)) (fun w' h => h.2.1)) (by assumption) ?_
        try simp only [Act.put, List.setIfInBounds_toArray, List.set_cons_zero, List.set_cons_succ]
        refine held_take (i := 12) (v := ?_) rfl (by kernel_rfl) (by kernel_rfl) (by kernel_rfl) (fun _ _ _ h => h) (Or.inl ⟨by rfl, ?_⟩) (by assumption) ?_
        rotate_left
        · intro w hSw; (try dsimp only at hSw); go_simp; try with_reducible rfl
        try simp only [Act.put, List.setIfInBounds_toArray, List.set_cons_zero, List.set_cons_succ]
        refine held_take (i := 13) (v := ?_) rfl (by kernel_rfl) (by kernel_rfl) (by kernel_rfl) (fun _ _ _ h => h) (Or.inl ⟨by rfl, ?_⟩) (by assumption) ?_
        rotate_left
        · intro w hSw; (try dsimp only at hSw); go_simp; try with_reducible rfl
        try simp only [Act.put, List.setIfInBounds_toArray, List.set_cons_zero, List.set_cons_succ]
        refine held_take (i := 14) (v := ?_) rfl (by kernel_rfl) (by kernel_rfl) (by kernel_rfl) (fun _ _ _ h => h) (Or.inl ⟨by rfl, ?_⟩) (by assumption) ?_
        rotate_left
        · intro w hSw; (try dsimp only at hSw); go_simp; try with_reducible rfl
        try simp only [Act.put, List.setIfInBounds_toArray, List.set_cons_zero, List.set_cons_succ]
        refine held_take (i := 15) (v := ?_) rfl (by kernel_rfl) (by kernel_rfl) (by kernel_rfl) (fun _ _ _ h => h) (Or.inl ⟨by rfl, ?_⟩) (by assumption) ?_
        rotate_left
        · intro w hSw; (try dsimp only at hSw); go_simp; try with_reducible rfl
        try simp only [Act.put, List.setIfInBounds_toArray, List.set_cons_zero, List.set_cons_succ]
        refine held_take (i := 16) (v := ?_) rfl (by kernel_rfl) (by kernel_rfl) (by kernel_rfl) (fun _ _ _ h => h) (Or.inl ⟨by rfl, ?_⟩) (by assumption) ?_
        rotate_left
        · intro w hSw; (try dsimp only at hSw); go_simp; try with_reducible rfl
        try simp only [Act.put, List.setIfInBounds_toArray, List.set_cons_zero, List.set_cons_succ]
        refine held_take (i := 17) (v := ?_) rfl (by kernel_rfl) (by kernel_rfl) (by kernel_rfl) (fun _ _ _ h => h) (Or.inl ⟨by rfl, ?_⟩) (by assumption) ?_
        rotate_left
        · intro w hSw; (try dsimp only at hSw); go_simp; try with_reducible rfl
        try simp only [Act.put, List.setIfInBounds_toArray, List.set_cons_zero, List.set_cons_succ]
        refine held_take (i := 18) (v := _) rfl (by kernel_rfl) (by kernel_rfl) (by kernel_rfl) (fun _ _ _ h => h) (yieldsIf_str (by rfl) rfl rfl (v := .slice (cutA a3 cx a) 16 (cx - a)) (fun w' h => h.2.2.1)) (by assumption) ?_
        try simp only [Act.put, List.setIfInBounds_toArray, List.set_cons_zero, List.set_cons_succ]
        refine held_take (i := 19) (v := ?_) rfl (by kernel_rfl) (by kernel_rfl) (by kernel_rfl) (fun _ _ _ h => h) (Or.inl ⟨by rfl, ?_⟩) (by assumption) ?_
        rotate_left
        · intro w hSw; (try dsimp only at hSw); go_simp; try with_reducible rfl
        try simp only [Act.put, List.setIfInBounds_toArray, List.set_cons_zero, List.set_cons_succ]
        refine held_take (i := 20) (v := ?_) rfl (by kernel_rfl) (by kernel_rfl) (by kernel_rfl) (fun _ _ _ h => h) (Or.inl ⟨by rfl, ?_⟩) (by assumption) ?_
        rotate_left
        · intro w hSw; (try dsimp only at hSw); go_simp; try with_reducible rfl
        try simp only [Act.put, List.setIfInBounds_toArray, List.set_cons_zero, List.set_cons_succ]
        refine held_take (i := 21) (v := ?_) rfl (by kernel_rfl) (by kernel_rfl) (by kernel_rfl) (fun _ _ _ h => h) (Or.inl ⟨by rfl, ?_⟩) (by assumption) ?_
        rotate_left
        · intro w hSw; (try dsimp only at hSw); go_simp; try with_reducible rfl
        try simp only [Act.put, List.setIfInBounds_toArray, List.set_cons_zero, List.set_cons_succ]
        refine held_take (i := 22) (v := ?_) rfl (by kernel_rfl) (by kernel_rfl) (by kernel_rfl) (fun _ _ _ h => h) (Or.inl ⟨by rfl, ?_⟩) (by assumption) ?_
        rotate_left
        · intro w hSw; (try dsimp only at hSw); go_simp; try with_reducible rfl
        try simp only [Act.put, List.setIfInBounds_toArray, List.set_cons_zero, List.set_cons_succ]
        refine held_take (i := 23) (v := ?_) rfl (by kernel_rfl) (by kernel_rfl) (by kernel_rfl) (fun _ _ _ h => h) (Or.inl ⟨by rfl, ?_⟩) (by assumption) ?_
        rotate_left
        · intro w hSw; (try dsimp only at hSw); go_simp; try with_reducible rfl
        try simp only [Act.put, List.setIfInBounds_toArray, List.set_cons_zero, List.set_cons_succ]
        refine held_take (i := 24) (v := _) rfl (by kernel_rfl) (by kernel_rfl) (by kernel_rfl) (fun _ _ _ h => h) (yieldsIf_str (by rfl) rfl rfl (v := .slice (cutA a4 cy a) 16 (cy - a)) (fun w' h => h.2.2.2)) (by assumption) ?_
        try simp only [Act.put, List.setIfInBounds_toArray, List.set_cons_zero, List.set_cons_succ]
        refine held_take (i := 25) (v := ?_) rfl (by kernel_rfl) (by kernel_rfl) (by kernel_rfl) (fun _ _ _ h => h) (Or.inl ⟨by rfl, ?_⟩) (by assumption) ?_
        rotate_left
        · intro w hSw; (try dsimp only at hSw); go_simp; try with_reducible rfl
        try simp only [Act.put, List.setIfInBounds_toArray, List.set_cons_zero, List.set_cons_succ]
        refine held_take (i := 26) (v := ?_) rfl (by kernel_rfl) (by kernel_rfl) (by kernel_rfl) (fun _ _ _ h => h) (Or.inl ⟨by rfl, ?_⟩) (by assumption) ?_
        rotate_left
        · intro w hSw; (try dsimp only at hSw); go_simp; try with_reducible rfl
        try simp only [Act.put, List.setIfInBounds_toArray, List.set_cons_zero, List.set_cons_succ]
        refine wpAnyH_done (by kernel_rfl) ?_ _
        clear hHeld
        go_wp2_with fail
        go_roundw
        case rel => exact ⟨k + 1, a + 16, by have := h16.out; have := eak.out; omega, by have := eak.out; omega, by go_num, Br.out.drew⟩
        case measure => simp [intOf]; have := h16.out; omega
      · have d : decide ((a : Int) < (n : Int)) = false := decide_eq_false (by omega)
        have dn : decide (a < n) = false := decide_eq_false hlt
        have low9 := low4.out.trans (Br.mono low4.out.size)
        replace Br := Lib.hid Br
        replace low9 := Lib.hid low9
        replace eak := Lib.hid eak
        replace hk := Lib.hid hk
        go_wp2_with fail
        refine (alive06 _).mono ?_
        rintro e w5 ⟨rfl, B5⟩
        have low5 := low9.out.trans (B5.mono low9.out.size)
        replace B5 := Lib.hid B5
        replace low5 := Lib.hid low5
        go_wp2_with fail
        go_ret
        exact ⟨rfl, low5.out⟩
  · have hmr : ((n : Int)).tmod 16 = ((n % 16 : Nat) : Int) := by rw [Int.tmod_eq_emod_of_nonneg (by omega)]; omega
    have dd : decide ((n : Int) > 600) = true ∨ (decide ((n : Int) > 600) = false ∧ ((n : Int) != (m : Int)) = true ∧ (n != m) = true) ∨ (decide ((n : Int) > 600) = false ∧ n = m ∧ ((n : Int) == 0) = true) ∨
        (decide ((n : Int) > 600) = false ∧ n = m ∧ ((n : Int) == 0) = false ∧ (((n % 16 : Nat) : Int) != 0) = true) := by
      by_cases g1 : 600 < n
      · left; exact decide_eq_true (by omega)
      · right
        have f1 : decide ((n : Int) > 600) = false := decide_eq_false (by omega)
        by_cases g2 : n = m
        · right
          by_cases g3 : n = 0
          · left; exact ⟨f1, g2, by rw [g3]; rfl⟩
          · right
            refine ⟨f1, g2, beq_eq_false_iff_ne.2 (by omega), ?_⟩
            have : (((n % 16 : Nat) : Int) == 0) = false := beq_eq_false_iff_ne.2 (by omega)
            rw [bne, this]; rfl
        · left
          have h5 : ((n : Int) == (m : Int)) = false := beq_eq_false_iff_ne.2 (by omega)
          have h6 : (n == m) = false := beq_eq_false_iff_ne.2 g2
          exact ⟨f1, by rw [bne, h5]; rfl, by rw [bne, h6]; rfl⟩
    generalize n % 16 = rr at *
    clear hg cn q0 q1 q2
    replace ea := Lib.hid ea
    replace eb := Lib.hid eb
    rcases dd with d1 | ⟨d1, d2, d3⟩ | ⟨d1, rfl, d3⟩ | ⟨d1, rfl, d3, d4⟩
    all_goals
      go_enter Try.func11, Try.ntmps11
      go_wp2_with fail
      refine (alive06 _).mono ?_
      rintro e w2 ⟨rfl, B2⟩
      have low2 := low.out.trans (B2.mono low.out.size)
      replace B2 := Lib.hid B2
      replace low2 := Lib.hid low2
      go_wp2_with fail
      go_ret
      exact ⟨rfl, low2.out⟩
end Go.Proofs.Ytnadgjlmlnhknaa
