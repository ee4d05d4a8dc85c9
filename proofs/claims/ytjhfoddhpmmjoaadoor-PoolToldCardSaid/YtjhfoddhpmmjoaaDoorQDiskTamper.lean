/-
  disk: Tamper. Conditions: the disk's blocks are its own; not too many writes wait.
-/
import Derived.Test.YtjhfoddhpmmjoaaDoorQDiskWrite
import Derived.Test.YtjhfoddhpmmjoaaDoorQMapEntry
import Derived.Test.YtjhfoddhpmmjoaaDoorQHeld
import Derived.Deep.MidRow
namespace Go.Proofs.YtjhfoddhpmmjoaaDoor
set_option maxRecDepth 100000
open Go.RowKit Go.Maps

theorem wp_map_entry {P : Program} {w w2 : World} {o : Oper} {a : Act} {K : Act → World → Prop} {Q : Exit → Act → World → Prop} (T : TypeId) (m x : Operand) (ho : o.op = .mapEntry T m x) {mv xv v : Value} (hm : a.eval m = mv) (hx : a.eval x = xv)
    (hr : (Instr.mapEntry T mv xv).run P w = .ok v w2) (h : K (a.put o.dst v) w2) : o.wp P a w K Q := by
  unfold Oper.wp execOp
  simp only [ho, hm, hx, Sem.run_bind, Sem.run_pure, hr, Result.andThen_ok]
  exact h
theorem wp_entry_store {P : Program} {w w2 : World} {o : Oper} {a : Act} {K : Act → World → Prop} {Q : Exit → Act → World → Prop} (T : TypeId) (m s x : Operand) (ho : o.op = .entryStore T m s x) {mv sv xv : Value} (hm : a.eval m = mv) (hs : a.eval s = sv) (hx : a.eval x = xv)
    (hr : (Instr.entryStore T mv sv xv).run P w = .ok () w2) (h : K (a.put o.dst undef) w2) : o.wp P a w K Q := by
  unfold Oper.wp execOp
  simp only [ho, hm, hs, hx, Sem.run_bind, Sem.run_pure, hr, Result.andThen_ok]
  exact h
/-- Cells stored into a block just made. -/
theorem wpList_store_new {P : Program} {w : World} {zs : Array Value} {T : TypeId} {ops : Array Oper} {rest : List Oper} {o : Oper} {a : Act} {Q : Exit → Act → World → Prop} (hgd : o.guard = none) (x y : Operand) (ho : o.op = .store T x y)
    (cs : Array Value) (hx : a.eval x = .pointer (some ⟨w.heap.size, 0, none⟩)) (hy : a.eval y = .agg cs) (hi : (P.info? T).map (·.size) = some cs.size)
    (hold : zs.size = cs.size) (h1 : cs.all (·.oneCell') = true) (h : ∀ w', Hid (w'.heap[w.heap.size]? = some (.cells cs T (0, 0))) → Hid (Below w.heap.size w w') → wpList P ops Q rest (a.put o.dst undef) w') : wpList P ops Q (o :: rest) a (w.alloc (.cells zs T)) := by
  refine wpList_store_row hgd T x y ho w.heap.size cs hx hy T zs (heap_alloc_new _ _) hi hold h1 ?_
  exact h _ (setRow_heap _ _ _ _ _ _ (heap_alloc_new _ _)) (((Below.refl _ _).alloc (Nat.le_refl _) _).trans ((Upd.setRow (S := fun i => i = w.heap.size) (Upd.refl _ _) w.heap.size _ (fun _ => rfl)).below (fun k hk e => by omega) (by simp)))
section
variable {w w' : World} {F G : Nat → Prop} {b ms mh : Nat} {wv : Value} {D : Dk}
theorem DiskP.entrySure (h : DiskP w F b ms mh wv D) {s : Nat} (hs : s < 4294967296) {v : Value} {t : List Nat} (ho : OwnT w F v t) (hl : t.length = 512) :
    ∃ (v0 : Value) (st : Nat) (w2 w3 : World), (Instr.mapEntry 122 (.map (some ms)) (.int .u32 (s : Int))).run Tryd.prog w = .ok (.tuple #[v0, .int .i64 (st : Int)]) w2 ∧ Upd (fun k => k = ms) w w2 ∧ (Instr.entryStore 122 (.map (some ms)) (.int .i64 (st : Int)) v).run Tryd.prog w2 = .ok () w3 ∧
      DiskP w3 F b ms mh wv { D with sure := updM D.sure s t } ∧ OwnT w3 F v t ∧ Upd (fun k => k = ms) w w3 := by
  have hm := h.sure
  obtain ⟨k, C, hc⟩ := h.sure
  obtain ⟨es, clock, he⟩ := hm.isMap
  obtain ⟨v0, st, es1, clock1, n', h1, h2⟩ := hc.map.entry u32Law Tryd.underlying122 (u32_key hs) (zeroBytes w)
  obtain ⟨q1, q2⟩ := setBlock_upd (w := w) he (.map es1 clock1)
  obtain ⟨o', h3, h4⟩ := h2 (ChangeMaps.setBlock w ms (.map es1 clock1)) v q1
  obtain ⟨_, q4⟩ := setBlock_upd (w := ChangeMaps.setBlock w ms (.map es1 clock1)) q1 o'
  have U := q2.trans q4 (fun _ _ e => e)
  obtain ⟨cs, hcs⟩ : ∃ cs, w.heap[b]? = some (.cells cs 126 (0, 0)) := by obtain ⟨cs, h1, _⟩ := h.row; exact ⟨cs, h1⟩
  have hput : SecMap (ChangeMaps.setBlock (ChangeMaps.setBlock w ms (.map es1 clock1)) ms o') F ms (updM D.sure s t) := by
    have keep : ∀ u x, OwnT w F u x → OwnT (ChangeMaps.setBlock (ChangeMaps.setBlock w ms (.map es1 clock1)) ms o') F u x := fun u x hu => Upd.text hm U hu
    refine ⟨_, _, h4, fun key u hcc => ?_, fun s' t' hM => ?_, hc.inF⟩
    · by_cases ek : key = .int .u32 (s : Int)
      · subst ek
        rw [updF_same] at hcc
        cases hcc
        exact ⟨s, t, rfl, hs, updM_same _ _ _, keep _ _ ho, hl⟩
      · rw [updF_other ek] at hcc
        obtain ⟨s', t', e1, e2, e3, e4, e5⟩ := hc.all key u hcc
        refine ⟨s', t', e1, e2, ?_, keep _ _ e4, e5⟩
        rw [updM_other _ _ (fun e => ek (by rw [e1, e]))]
        exact e3
    · by_cases es : s' = s
      · subst es; rw [updF_same]; rfl
      · rw [updM_other _ _ es] at hM
        rw [updF_other (fun e => es (by injection e with _ e; omega))]
        exact hc.has s' t' hM
  exact ⟨v0, st, _, _, h1, q2, h3, ⟨h.row.of_block (U.block b h.row.lt (hm.ne_cells hcs)), h.fb, hput, Upd.sec hm U h.shown (fun e => h.ne e.symm), h.ne, Upd.waits hm U h.wait, h.lo, h.hi⟩, Upd.text hm U ho, U⟩
theorem DiskP.entryShown (h : DiskP w F b ms mh wv D) {s : Nat} (hs : s < 4294967296) {v : Value} {t : List Nat} (ho : OwnT w F v t) (hl : t.length = 512) :
    ∃ (v0 : Value) (st : Nat) (w2 w3 : World), (Instr.mapEntry 122 (.map (some mh)) (.int .u32 (s : Int))).run Tryd.prog w = .ok (.tuple #[v0, .int .i64 (st : Int)]) w2 ∧ Upd (fun k => k = mh) w w2 ∧ (Instr.entryStore 122 (.map (some mh)) (.int .i64 (st : Int)) v).run Tryd.prog w2 = .ok () w3 ∧
      DiskP w3 F b ms mh wv { D with shown := updM D.shown s t } ∧ OwnT w3 F v t ∧ Upd (fun k => k = mh) w w3 := by
  have hm := h.shown
  obtain ⟨k, C, hc⟩ := h.shown
  obtain ⟨es, clock, he⟩ := hm.isMap
  obtain ⟨v0, st, es1, clock1, n', h1, h2⟩ := hc.map.entry u32Law Tryd.underlying122 (u32_key hs) (zeroBytes w)
  obtain ⟨q1, q2⟩ := setBlock_upd (w := w) he (.map es1 clock1)
  obtain ⟨o', h3, h4⟩ := h2 (ChangeMaps.setBlock w mh (.map es1 clock1)) v q1
  obtain ⟨_, q4⟩ := setBlock_upd (w := ChangeMaps.setBlock w mh (.map es1 clock1)) q1 o'
  have U := q2.trans q4 (fun _ _ e => e)
  obtain ⟨cs, hcs⟩ : ∃ cs, w.heap[b]? = some (.cells cs 126 (0, 0)) := by obtain ⟨cs, h1, _⟩ := h.row; exact ⟨cs, h1⟩
  have hput : SecMap (ChangeMaps.setBlock (ChangeMaps.setBlock w mh (.map es1 clock1)) mh o') F mh (updM D.shown s t) := by
    have keep : ∀ u x, OwnT w F u x → OwnT (ChangeMaps.setBlock (ChangeMaps.setBlock w mh (.map es1 clock1)) mh o') F u x := fun u x hu => Upd.text hm U hu
    refine ⟨_, _, h4, fun key u hcc => ?_, fun s' t' hM => ?_, hc.inF⟩
    · by_cases ek : key = .int .u32 (s : Int)
      · subst ek
        rw [updF_same] at hcc
        cases hcc
        exact ⟨s, t, rfl, hs, updM_same _ _ _, keep _ _ ho, hl⟩
      · rw [updF_other ek] at hcc
        obtain ⟨s', t', e1, e2, e3, e4, e5⟩ := hc.all key u hcc
        refine ⟨s', t', e1, e2, ?_, keep _ _ e4, e5⟩
        rw [updM_other _ _ (fun e => ek (by rw [e1, e]))]
        exact e3
    · by_cases es : s' = s
      · subst es; rw [updF_same]; rfl
      · rw [updM_other _ _ es] at hM
        rw [updF_other (fun e => es (by injection e with _ e; omega))]
        exact hc.has s' t' hM
  exact ⟨v0, st, _, _, h1, q2, h3, ⟨h.row.of_block (U.block b h.row.lt (hm.ne_cells hcs)), h.fb, Upd.sec hm U h.sure h.ne, hput, h.ne, Upd.waits hm U h.wait, h.lo, h.hi⟩, Upd.text hm U ho, U⟩
theorem Waits.writes {Q : List (Nat × List Nat)} (h : Waits w F wv Q) (hW : Writes w w' G) (hU : ∀ k, wv.ownBlock = some k → w'.heap[k]? = w.heap[k]?) : Waits w' F wv Q := by
  obtain ⟨L, hL⟩ := h
  refine ⟨L, hL.len, fun j u p a c => by obtain ⟨e1, e2, e3⟩ := hL.all j u p a c; exact ⟨e1, e2, hW.text e3⟩, ?_, hL.inF⟩
  rcases hL.row with r | ⟨e, g, rfl, hg⟩
  · left
    refine ⟨r.1, ?_⟩
    rcases r.2 with hn | ⟨g, cap, cur, rfl, hb, hgg, rest⟩
    · exact .inl hn
    · exact .inr ⟨g, cap, cur, rfl, hb, (hU g rfl).trans hgg, rest⟩
  · exact .inr ⟨e, g, rfl, lt_of_same (hU g rfl) hg⟩
theorem Waits.lt {Q : List (Nat × List Nat)} (h : Waits w F wv Q) : ∀ k, wv.ownBlock = some k → k < w.heap.size := by obtain ⟨L, hL⟩ := h; exact hL.lt
/-- The loop's state: what is left of the writes, in blocks of its own. -/
structure TamSt (w0 w : World) (F : Nat → Prop) (b ms mh : Nat) (wv : Value) (D : Dk) (base : Nat) (lv : Value) (Q : List (Nat × List Nat)) : Prop where
  p : DiskP w (fun k => F k ∨ w0.heap.size ≤ k) b ms mh wv D
  l : Waits w (fun k => F k ∨ w0.heap.size ≤ k) lv Q
  own : (∀ k, lv.ownBlock = some k → base ≤ k) ∨ ∃ ao, lv = .slice ao 0 0
  wlt : ∀ k, wv.ownBlock = some k → k < base
  u : Upd F w0 w
  sz : base ≤ w.heap.size
theorem TamSt.below {w0 : World} {base : Nat} {lv : Value} {Q : List (Nat × List Nat)} (h : TamSt w0 w F b ms mh wv D base lv Q) (hB : Below w.heap.size w w') : TamSt w0 w' F b ms mh wv D base lv Q := by
  obtain ⟨L, hL⟩ := h.l
  exact ⟨h.p.stay (fun k _ hk => hB.block k hk), ⟨L, hL.stay (fun k _ hk => hB.block k hk)⟩, h.own, h.wlt, h.u.trans (Upd.of_below (S := F) hB) (fun _ _ e => e), Nat.le_trans h.sz hB.size⟩
theorem TamSt.push {w0 : World} {base : Nat} {lv : Value} {Q : List (Nat × List Nat)} (h : TamSt w0 w F b ms mh wv D base lv Q) {s : Nat} {t : List Nat} {v : Value} (hs : s < 4294967296) (ho : OwnT w (fun k => F k ∨ w0.heap.size ≤ k) v t) (hl : t.length = 512) {hb : Nat} (hc : w.heap[hb]? = some (.cells #[.int .u32 (s : Int), v] 128 (0, 0))) (hq : Q.length < 1000000000) (ty : TypeId) :
    ∃ lv' w', (Builtin.append_ #[123, 123] ty #[lv, .slice (some ⟨hb, 0, none⟩) 1 1]).run Tryd.prog w = .ok lv' w' ∧ TamSt w0 w' F b ms mh wv D base lv' (Q ++ [(s, t)]) := by
  have h0 := h.u.size
  obtain ⟨lv', w', hr, h1, h2, h3, h4, h5, h6⟩ := h.l.push hs ho hl hc hq ty
  have hm : ∀ k, ((F k ∨ w0.heap.size ≤ k) ∨ w.heap.size ≤ k) → (F k ∨ w0.heap.size ≤ k) := fun k hk => hk.elim id (fun e => .inr (by omega))
  have hsame : ∀ k, wv.ownBlock = some k → w'.heap[k]? = w.heap[k]? := fun k hk => by
    have k1 := h.wlt k hk
    have k2 := h.sz
    rcases h.own with ho | ⟨ao, rfl⟩
    · exact h5.block k (by omega) (fun e => by have := ho k e; omega)
    · exact (h6 ao 0 0 rfl (by omega)).1.block k (by omega)
  obtain ⟨L, hL⟩ := h1
  refine ⟨lv', w', hr, ⟨⟨?_, h.p.fb, h2.map h.p.sure, h2.map h.p.shown, h.p.ne, h.p.wait.writes h2 hsame, h.p.lo, h.p.hi⟩, ⟨L, hL.mono hm⟩, .inl fun k hk => ?_, h.wlt, ?_, Nat.le_trans h.sz h5.size⟩⟩
  · obtain ⟨c, e1, e2, e3⟩ := h.p.row
    exact ⟨c, h2.cells e1 (by decide), e2, e3⟩
  · rcases h.own with ho | ⟨ao, rfl⟩
    · rcases h3 with h3 | ⟨g, h3, hg⟩
      · exact ho k (h3.symm.trans hk)
      · rw [h3] at hk; cases hk; exact Nat.le_trans h.sz hg
    · obtain ⟨_, g, e, hg⟩ := h6 ao 0 0 rfl (by omega)
      rw [e] at hk; cases hk; exact Nat.le_trans h.sz hg
  · exact h.u.trans h2.upd (fun k hk e => e.elim id (fun q => by omega))
theorem Waits.cut {wo : Option Addr} {n c : Nat} {Q : List (Nat × List Nat)} (h : Waits w F (.slice wo n c) Q) : Waits w F (.slice wo 0 0) [] := by
  obtain ⟨L, hL⟩ := h
  have one : ∀ g, wo = some ⟨g, 0, none⟩ → g < w.heap.size → F g → Waits w F (.slice wo 0 0) [] := fun g e hg hF => by
    subst e
    exact ⟨[], rfl, fun i v p a _ => by simp at a, .inr ⟨rfl, g, rfl, hg⟩, fun k hk => by
      have : g = k := by simpa [Value.ownBlock] using hk
      rw [← this]; exact hF⟩
  rcases hL.row with r | ⟨_, g, e, hg⟩
  · rcases r.2 with ⟨e, _⟩ | ⟨g, cap, cur, e, _, hgg, _⟩
    · injection e with e1
      subst e1
      exact waits_nil w F
    · injection e with e1
      subst e1
      exact one g rfl (lt_of_block hgg) (hL.inF g rfl)
  · injection e with e1
    subst e1
    exact one g rfl hg (hL.inF g rfl)
theorem elemW : Tryd.prog.elem 123 = 128 := by simp [Program.elem, Tryd.underlying123]
theorem sizeW (x : World) : (sizeOf 128).run Tryd.prog x = .ok 2 x := by
  have hs := infoWrite
  cases hq : Tryd.prog.info? 128 with
  | none => simp [hq] at hs
  | some i => simp [hq] at hs; simp [sizeOf, typeInfo, hq, hs.2.1]
theorem cut_w (wo : Option Addr) (n c : Nat) : ∀ x, (Instr.slice 123 (.slice wo n c) none (some (.int .i64 0)) (some (.int .i64 0))).run Tryd.prog x = .ok (.slice wo 0 0) x := fun x => by
  rw [run_slice_hm (P := Tryd.prog) x 123 wo n c (by rw [elemW]; exact Tryd.underlying123) .i64 .i64 0 0 (by omega) (by omega) (by omega), elemW, sizeW]
  simp only [Result.andThen, sliced]
  rfl
def Dk.tamperE (D : Dk) (s len : Nat) : Int := if D.n ≤ s then 31 else if len ≠ 512 then 3 else 0
def Dk.tamperD (D : Dk) (s : Nat) (t : List Nat) : Dk := if D.n ≤ s ∨ t.length ≠ 512 then D else { D with sure := updM D.sure s t, shown := updM D.shown s t, waits := D.waits.filter fun p => p.1 != s }
theorem infoWrite3 {v u : Value} : (Tryd.prog.info? 128).map (·.size) = some [v, u].length := by kernel_rfl
theorem infoWrite2 {v u : Value} : (Tryd.prog.info? 128).map (·.size) = some (#[v, u] : Array Value).size := by kernel_rfl
set_option maxHeartbeats 4000000 in
set_option maxRecDepth 100000 in
theorem dtamper_any (h0 : DiskAt w F b D) (s : Nat) (hs : s < 4294967296) (v : Value) (t : List Nat) (ht : TextAt w v t) (hq : D.waits.length < 1000000000) :
    Calls Tryd.prog 40 #[.pointer (some ⟨b, 0, none⟩), .int .u32 (s : Int), v] w fun e w' => e = .returned (.int .i64 (D.tamperE s t.length)) ∧ DiskAt w' (fun k => F k ∨ w.heap.size ≤ k) b (D.tamperD s t) ∧ Upd F w w' := by
  obtain ⟨ao, cap, rfl, _⟩ := ht.ex
  have ct := dthere_any h0 s hs
  obtain ⟨ms, mh, wv, h⟩ := h0
  have hfb := h.fb
  have done : ∀ E, (D.n ≤ s ∨ t.length ≠ 512) → D.tamperE s t.length = E → E = D.tamperE s t.length ∧ DiskAt w (fun k => F k ∨ w.heap.size ≤ k) b (D.tamperD s t) ∧ Upd F w w := fun E h1 h2 => by
    refine ⟨h2.symm, ?_, Upd.refl _ _⟩
    unfold Dk.tamperD
    rw [if_pos h1]
    exact ⟨ms, mh, wv, h.mono fun _ hk => .inl hk⟩
  unfold Dk.thereE at ct
  by_cases hns : D.n ≤ s
  · rw [if_pos hns] at ct
    have d := done 31 (.inl hns) (by unfold Dk.tamperE; rw [if_pos hns])
    clear done
    generalize D.tamperE s t.length = E at *
    obtain ⟨rfl, dA, dU⟩ := d
    replace h := Lib.hid h
    replace ct := Lib.hid ct
    replace dA := Lib.hid dA
    replace dU := Lib.hid dU
    replace ht := Lib.hid ht
    go_enter Tryd.func40, Tryd.ntmps40
    go_wp2_with fail
    refine ct.out.mono ?_
    rintro e _ ⟨rfl, rfl⟩
    go_wp2_with fail
    go_ret
    exact ⟨rfl, dA.out, dU.out⟩
  · rw [if_neg hns] at ct
    by_cases hl2 : t.length = 512
    · have d5 : ((t.length : Int) != 512) = false := by simp; omega
      have d6 : ((t.length : Int) == 512) = true := by simp; omega
      have eE : D.tamperE s t.length = 0 := by unfold Dk.tamperE; rw [if_neg hns, if_neg (fun e => e hl2)]
      have eD : D.tamperD s t = { D with sure := updM D.sure s t, shown := updM D.shown s t, waits := D.waits.filter fun p => p.1 != s } := by unfold Dk.tamperD; rw [if_neg (by rintro (e | e); exact hns e; exact e hl2)]
      rw [eE, eD]
      have cl := clone_any w (.slice ao t.length cap) t ht (by omega)
      clear done
      replace h := Lib.hid h
      replace ct := Lib.hid ct
      replace cl := Lib.hid cl
      replace ht := Lib.hid ht
      replace eE := Lib.hid eE
      replace eD := Lib.hid eD
      replace hl2 := Lib.hid hl2
      go_enter Tryd.func40, Tryd.ntmps40
      go_wp2_with fail
      refine ct.out.mono ?_
      rintro e _ ⟨rfl, rfl⟩
      go_wp2_with fail
      refine cl.out.mono ?_
      rintro e w1 ⟨v1, rfl, o1, B1⟩
      have P1 : DiskP w1.drew (fun k => F k ∨ w.heap.size ≤ k) b ms mh wv D := (h.out.stay (w' := w1.drew) (fun k _ hk => B1.block k hk)).mono fun _ hk => .inl hk
      have ow1 : OwnT w1.drew (fun k => F k ∨ w.heap.size ≤ k) v1 t := ⟨o1.weaken (Nat.zero_le _), ht.out.small, fun k hk => .inr (o1.lt k hk).1⟩
      obtain ⟨vo, vc, ev, _⟩ := o1.form
      subst ev
      have c1 := P1.c1
      have c2 := P1.c2
      obtain ⟨x0, st0, w2, w3, r2, u2, r3, P3, ow3, u3⟩ := P1.entrySure hs ow1 hl2.out
      obtain ⟨x1, st1, w4, w5, r4, u4, r5, P5, ow5, u5⟩ := P3.entryShown hs ow3 hl2.out
      have hms : F ms := h.out.sure.inF
      have hmh : F mh := h.out.shown.inF
      have U5 : Upd F w w5 := (((Upd.of_below (S := F) B1).drew).trans u3 (fun k _ e => by rw [e]; exact hms)).trans u5 (fun k _ e => by rw [e]; exact hmh)
      have b1 : b ≠ ms := by
        obtain ⟨cs, hcs⟩ : ∃ cs, w1.drew.heap[b]? = some (.cells cs 126 (0, 0)) := by obtain ⟨cs, h1, _⟩ := P1.row; exact ⟨cs, h1⟩
        exact P1.sure.ne_cells hcs
      have b2 : b ≠ mh := by
        obtain ⟨cs, hcs⟩ : ∃ cs, w1.drew.heap[b]? = some (.cells cs 126 (0, 0)) := by obtain ⟨cs, h1, _⟩ := P1.row; exact ⟨cs, h1⟩
        exact P1.shown.ne_cells hcs
      have S2 : w2.cell? ⟨b, 1, none⟩ = some (.map (some ms)) ∧ w2.cell? ⟨b, 2, none⟩ = some (.map (some mh)) := ⟨(u2.cell (p := ⟨b, 1, none⟩) P1.row.lt b1).trans c1, (u2.cell (p := ⟨b, 2, none⟩) P1.row.lt b1).trans c2⟩
      have S3 := And.intro P3.c1 P3.c2
      have S4 : w4.cell? ⟨b, 1, none⟩ = some (.map (some ms)) ∧ w4.cell? ⟨b, 2, none⟩ = some (.map (some mh)) := ⟨(u4.cell (p := ⟨b, 1, none⟩) P3.row.lt b2).trans P3.c1, (u4.cell (p := ⟨b, 2, none⟩) P3.row.lt b2).trans P3.c2⟩
      have S5 := And.intro P5.c1 P5.c2
      clear u2 u3 u4 u5 P3 ow3 b1 b2 B1 o1 P1 ow1
      replace P5 := Lib.hid P5
      replace ow5 := Lib.hid ow5
      replace U5 := Lib.hid U5
      replace S2 := Lib.hid S2
      replace S3 := Lib.hid S3
      replace S4 := Lib.hid S4
      replace S5 := Lib.hid S5
      replace r2 := Lib.hid r2
      replace r3 := Lib.hid r3
      replace r4 := Lib.hid r4
      replace r5 := Lib.hid r5
      go_wp2_with fail
      refine wp_region_held_drew (S := (fun w' => w'.cell? ⟨b, 1, none⟩ = some (.map (some ms)) ∧ w'.cell? ⟨b, 2, none⟩ = some (.map (some mh)))) (by kernel_rfl) (⟨c1, c2⟩) (fun hHeld => ?_)
      refine held_take (i := 0) (v := ?_) rfl (by kernel_rfl) (by kernel_rfl) (by kernel_rfl) (fun _ _ _ h => h) (Or.inl ⟨by rfl, ?_⟩) (by assumption) ?_
      rotate_left
      · intro w hSw; (try dsimp only at hSw); go_simp; try with_reducible rfl
      try simp only [Act.put, List.setIfInBounds_toArray, List.set_cons_zero, List.set_cons_succ]
      refine held_take (i := 1) (v := ?_) rfl (by kernel_rfl) (by kernel_rfl) (by kernel_rfl) (fun _ _ _ h => h) (Or.inl ⟨by rfl, ?_⟩) (by assumption) ?_
      rotate_left
      · intro w hSw; (try dsimp only at hSw); go_simp; try with_reducible rfl
      try simp only [Act.put, List.setIfInBounds_toArray, List.set_cons_zero, List.set_cons_succ]
      refine held_take (i := 2) (v := ?_) rfl (by kernel_rfl) (by kernel_rfl) (by kernel_rfl) (fun _ _ _ h => h) (Or.inl ⟨by rfl, ?_⟩) (by assumption) ?_
      rotate_left
      · intro w hSw; (try dsimp only at hSw); go_simp; try with_reducible rfl
      try simp only [Act.put, List.setIfInBounds_toArray, List.set_cons_zero, List.set_cons_succ]
      refine held_take (i := 3) (v := ?_) rfl (by kernel_rfl) (by kernel_rfl) (by kernel_rfl) (fun _ _ _ h => h) (Or.inl ⟨by rfl, ?_⟩) (by assumption) ?_
      rotate_left
      · intro w hSw; (try dsimp only at hSw); go_simp; try with_reducible rfl
      try simp only [Act.put, List.setIfInBounds_toArray, List.set_cons_zero, List.set_cons_succ]
      refine held_take (i := 4) (v := ?_) rfl (by kernel_rfl) (by kernel_rfl) (by kernel_rfl) (fun _ _ _ h => h) (Or.inl ⟨by rfl, ?_⟩) (by assumption) ?_
      rotate_left
      · intro w hSw; (try dsimp only at hSw); go_simp; try with_reducible rfl
      try simp only [Act.put, List.setIfInBounds_toArray, List.set_cons_zero, List.set_cons_succ]
      refine held_take (i := 5) (v := ?_) rfl (by kernel_rfl) (by kernel_rfl) (by kernel_rfl) (fun _ _ _ h => h) (Or.inl ⟨by rfl, ?_⟩) (by assumption) ?_
      rotate_left
      · intro w hSw; (try dsimp only at hSw); go_simp; try with_reducible rfl
      try simp only [Act.put, List.setIfInBounds_toArray, List.set_cons_zero, List.set_cons_succ]
      refine held_take (i := 6) (v := ?_) rfl (by kernel_rfl) (by kernel_rfl) (by kernel_rfl) (fun _ _ _ h => h) (Or.inl ⟨by rfl, ?_⟩) (by assumption) ?_
      rotate_left
      · intro w hSw; (try dsimp only at hSw); go_simp; try with_reducible rfl
      try simp only [Act.put, List.setIfInBounds_toArray, List.set_cons_zero, List.set_cons_succ]
      refine held_take (i := 7) (v := ?_) rfl (by kernel_rfl) (by kernel_rfl) (by kernel_rfl) (fun _ _ _ h => h) (Or.inl ⟨by rfl, ?_⟩) (by assumption) ?_
      rotate_left
      · intro w hSw; (try dsimp only at hSw); go_simp; try with_reducible rfl
      try simp only [Act.put, List.setIfInBounds_toArray, List.set_cons_zero, List.set_cons_succ]
      refine held_take (i := 8) (v := ?_) rfl (by kernel_rfl) (by kernel_rfl) (by kernel_rfl) (fun _ _ _ h => h) (Or.inl ⟨by rfl, ?_⟩) (by assumption) ?_
      rotate_left
      · intro w hSw; (try dsimp only at hSw); go_simp; try with_reducible rfl
      try simp only [Act.put, List.setIfInBounds_toArray, List.set_cons_zero, List.set_cons_succ]
      refine held_take (i := 9) (v := ?_) rfl (by kernel_rfl) (by kernel_rfl) (by kernel_rfl) (fun _ _ _ h => h) (Or.inl ⟨by rfl, ?_⟩) (by assumption) ?_
      rotate_left
      · intro w hSw; (try dsimp only at hSw); go_simp; try with_reducible rfl
      try simp only [Act.put, List.setIfInBounds_toArray, List.set_cons_zero, List.set_cons_succ]
      refine held_take (i := 10) (v := ?_) rfl (by kernel_rfl) (by kernel_rfl) (by kernel_rfl) (fun _ _ _ h => h) (Or.inl ⟨by rfl, ?_⟩) (by assumption) ?_
      rotate_left
      · intro w hSw; (try dsimp only at hSw); go_simp; try with_reducible rfl
      try simp only [Act.put, List.setIfInBounds_toArray, List.set_cons_zero, List.set_cons_succ]
      refine held_take (i := 11) (v := ?_) rfl (by kernel_rfl) (by kernel_rfl) (by kernel_rfl) (fun _ _ _ h => h) (Or.inl ⟨by rfl, ?_⟩) (by assumption) ?_
      rotate_left
      · intro w hSw; (try dsimp only at hSw); go_simp; try with_reducible rfl
      try simp only [Act.put, List.setIfInBounds_toArray, List.set_cons_zero, List.set_cons_succ]
      refine held_ready (i := 12) rfl (by kernel_rfl) (fun K hK => ?_)
      rw [if_pos (by rfl)]
      refine wp_map_entry 122 (.tmp 26) (.tmp 27) rfl rfl rfl r2.out ?_
      refine hK.out _ _ (S2.out) (fun hHeldN => ?_)
      clear hHeld hK K
      have hHeld := hHeldN
      clear hHeldN
      try simp only [Act.put, List.setIfInBounds_toArray, List.set_cons_zero, List.set_cons_succ]
      refine held_take (i := 13) (v := ?_) rfl (by kernel_rfl) (by kernel_rfl) (by kernel_rfl) (fun _ _ _ h => h) (Or.inl ⟨by rfl, ?_⟩) (by assumption) ?_
      rotate_left
      · intro w hSw; (try dsimp only at hSw); go_simp; try with_reducible rfl
      try simp only [Act.put, List.setIfInBounds_toArray, List.set_cons_zero, List.set_cons_succ]
      refine held_ready (i := 14) rfl (by kernel_rfl) (fun K hK => ?_)
      rw [if_pos (by rfl)]
      refine wp_entry_store 122 (.tmp 26) (.tmp 36) (.tmp 33) rfl rfl rfl rfl r3.out ?_
      refine hK.out _ _ (S3.out) (fun hHeldN => ?_)
      clear hHeld hK K
      have hHeld := hHeldN
      clear hHeldN
      try simp only [Act.put]
      refine held_ready (i := 15) rfl (by kernel_rfl) (fun K hK => ?_)
      rw [if_pos (by rfl)]
      refine wp_map_entry 122 (.tmp 31) (.tmp 32) rfl rfl rfl r4.out ?_
      refine hK.out _ _ (S4.out) (fun hHeldN => ?_)
      clear hHeld hK K
      have hHeld := hHeldN
      clear hHeldN
      try simp only [Act.put, List.setIfInBounds_toArray, List.set_cons_zero, List.set_cons_succ]
      refine held_take (i := 16) (v := ?_) rfl (by kernel_rfl) (by kernel_rfl) (by kernel_rfl) (fun _ _ _ h => h) (Or.inl ⟨by rfl, ?_⟩) (by assumption) ?_
      rotate_left
      · intro w hSw; (try dsimp only at hSw); go_simp; try with_reducible rfl
      try simp only [Act.put, List.setIfInBounds_toArray, List.set_cons_zero, List.set_cons_succ]
      refine held_ready (i := 17) rfl (by kernel_rfl) (fun K hK => ?_)
      rw [if_pos (by rfl)]
      refine wp_entry_store 122 (.tmp 31) (.tmp 38) (.tmp 34) rfl rfl rfl rfl r5.out ?_
      refine hK.out _ _ (S5.out) (fun hHeldN => ?_)
      clear hHeld hK K
      have hHeld := hHeldN
      clear hHeldN
      try simp only [Act.put]
      refine wpAnyH_done (by kernel_rfl) ?_ _
      clear hHeld
      clear r2 r3 r4 r5 S2 S3 S4 S5 c1 c2
      obtain ⟨D5, hD5⟩ : ∃ x : Dk, x = { D with sure := updM D.sure s t, shown := updM D.shown s t } := ⟨_, rfl⟩
      have P6 : DiskP w5 (fun k => F k ∨ w.heap.size ≤ k) b ms mh wv D5 := by rw [hD5]; exact P5.out
      have eQ : D5.waits = D.waits := by rw [hD5]
      have eF : ({ D5 with waits := D5.waits.filter fun p => p.1 != s } : Dk) = { D with sure := updM D.sure s t, shown := updM D.shown s t, waits := D.waits.filter fun p => p.1 != s } := by rw [hD5]
      have hQ : D5.waits.length < 1000000000 := by rw [eQ]; exact hq
      obtain ⟨wo, wc, ew, lw⟩ : ∃ wo wc, wv = .slice wo D5.waits.length wc ∧ D5.waits.length ≤ wc := by
        obtain ⟨L, hL⟩ := P6.wait
        obtain ⟨wo, wc, ew, lw, _⟩ := hL.form
        exact ⟨wo, wc, ew, lw⟩
      subst ew
      have T5 : TamSt w w5 F b ms mh (.slice wo D5.waits.length wc) D5 w5.heap.size (.slice wo 0 0) ((D5.waits.take 0).filter fun p => p.1 != s) := ⟨P6, P6.wait.cut, .inr ⟨wo, rfl⟩, P6.wait.lt, U5.out, Nat.le_refl _⟩
      have c3 := P6.c3
      have hcut := cut_w wo D5.waits.length wc
      clear P5 ow5 U5
      generalize w5.heap.size = base at *
      replace P6 := Lib.hid P6
      replace eQ := Lib.hid eQ
      replace eF := Lib.hid eF
      replace hD5 := Lib.hid hD5
      replace T5 := Lib.hid T5
      replace hQ := Lib.hid hQ
      generalize hn : D5.waits.length = n at *
      go_wp2_with fail
      go_loopw [49, 9] (fun iv lv wr => ∃ i : Nat, i ≤ n ∧ iv = .int .i64 (i : Int) ∧ Hid (TamSt w wr F b ms mh (.slice wo n wc) D5 base lv ((D5.waits.take i).filter fun p => p.1 != s))) (fun iv _ _ => n - (intOf iv).toNat)
      case atStart => exact ⟨0, Nat.zero_le _, rfl, T5⟩
      case round =>
        clear T5 c3 P6
        obtain ⟨i, hi, rfl, st⟩ := hrel
        have hQn := hQ.out
        by_cases hlt : i < n
        · have d1 : decide ((i : Int) < (n : Int)) = true := decide_eq_true (by omega)
          have d2 : 0 ≤ (i : Int) ∧ (i : Int) < (n : Int) := by omega
          have d3 : IntKind.i64.wrap ((i : Int) + 1) = (i : Int) + 1 := IntWalk.i64_in _ (by omega)
          obtain ⟨L, hL⟩ := st.out.p.wait
          obtain ⟨p, hp⟩ : ∃ p, D5.waits[i]? = some p := ⟨_, List.getElem?_eq_getElem (by omega)⟩
          obtain ⟨u, hu⟩ : ∃ u, L[i]? = some u := ⟨_, List.getElem?_eq_getElem (by have := hL.len; omega)⟩
          obtain ⟨p1, p2, ow⟩ := hL.all i u p hu hp
          obtain ⟨wo', wc', ew, _, _, _, hc⟩ := hL.form
          obtain ⟨g, rfl, e1, e2⟩ := hc i p u hp hu
          have ewo : wo = some ⟨g, 0, none⟩ := by injection ew
          subst ewo
          obtain ⟨uo, uc, eu, _⟩ := ow.own.form
          subst eu
          have rg : wr.rangeAt g (i * 2) [.int .u32 (p.1 : Int), .slice uo (u8l p.2).length uc] := fun j x hj => by
            match j, hj with
            | 0, hj => simp at hj; rw [← hj]; exact e1
            | 1, hj => simp at hj; rw [← hj]; exact e2
          have etk : D5.waits.take (i + 1) = D5.waits.take i ++ [p] := by rw [List.take_add_one, hp]; rfl
          have lq : ((D5.waits.take i).filter fun p => p.1 != s).length < 1000000000 := by
            have h1 := List.length_filter_le (fun p : Nat × List Nat => p.1 != s) (D5.waits.take i)
            rw [List.length_take] at h1
            omega
          clear hc e1 e2 ew hL hu
          generalize (u8l p.2).length = ul at *
          by_cases hps : p.1 = s
          · have d4 : ((p.1 : Int) != (s : Int)) = false := by simp [hps]
            have d4' : ((p.1 : Int) == (s : Int)) = true := by simp [hps]
            have ef : (D5.waits.take (i + 1)).filter (fun p => p.1 != s) = (D5.waits.take i).filter fun p => p.1 != s := by rw [etk, List.filter_append, List.filter_cons_of_neg (by simp [hps])]; simp
            have st6 := st.out.below ((Below.refl _ _).alloc (Nat.le_refl _) (.cells #[.int .u32 (p.1 : Int), .slice uo ul uc] 128))
            replace st := Lib.hid st
            replace hp := Lib.hid hp
            replace rg := Lib.hid rg
            replace etk := Lib.hid etk
            replace ow := Lib.hid ow
            replace lq := Lib.hid lq
            replace hps := Lib.hid hps
            replace ef := Lib.hid ef
            replace st6 := Lib.hid st6
            go_wp2_with (refine wpList_load_mid (by rfl) 128 (.tmp 51) rfl g (i * 2) rfl [.int .u32 (p.1 : Int), .slice uo ul uc] _ rg.out Tryd.underlying128 rfl infoWrite3 ?_)
            go_roundw
            case rel => exact ⟨i + 1, by omega, by go_num, by rw [ef.out]; exact st6⟩
            case measure => simp [intOf]; omega
          · have d4 : ((p.1 : Int) != (s : Int)) = true := by simp; omega
            have d4' : ((p.1 : Int) == (s : Int)) = false := by simp; omega
            have d4n : ¬ p.1 = s := hps
            have ef : (D5.waits.take (i + 1)).filter (fun p => p.1 != s) = ((D5.waits.take i).filter fun p => p.1 != s) ++ [p] := by rw [etk, List.filter_append, List.filter_cons_of_pos (by simp [hps])]; simp
            have B6 : Below wr.heap.size wr (wr.alloc (.cells #[.int .u32 (p.1 : Int), .slice uo ul uc] 128)) := (Below.refl _ _).alloc (Nat.le_refl _) _
            have B7 : Below (wr.alloc (.cells #[.int .u32 (p.1 : Int), .slice uo ul uc] 128)).heap.size (wr.alloc (.cells #[.int .u32 (p.1 : Int), .slice uo ul uc] 128)) ((wr.alloc (.cells #[.int .u32 (p.1 : Int), .slice uo ul uc] 128)).alloc (.cells #[.int .u32 (p.1 : Int), .slice uo ul uc] 128)) := (Below.refl _ _).alloc (Nat.le_refl _) _
            have hpush := fun ty => ((st.out.below B6).below B7).push p1 ((ow.stay (fun k _ hk => B6.block k hk)).stay (fun k _ hk => B7.block k hk)) p2 (hb := wr.heap.size + 1) (heap_alloc2_new _ _ _) lq ty
            clear B6 B7
            replace st := Lib.hid st
            replace hp := Lib.hid hp
            replace rg := Lib.hid rg
            replace etk := Lib.hid etk
            replace ow := Lib.hid ow
            replace lq := Lib.hid lq
            replace ef := Lib.hid ef
            replace hpush := Lib.hid hpush
            go_wp2_with (first
              | refine wpList_load_mid (by rfl) 128 (.tmp 51) rfl g (i * 2) rfl [.int .u32 (p.1 : Int), .slice uo ul uc] _ rg.out Tryd.underlying128 rfl infoWrite3 ?_
              | (refine wpList_append_run1 (by rfl) (.tmp 57) (.tmp 59) 123 rfl u9 (.slice (some ⟨wr.heap.size + 1, 0, none⟩) 1 1) rfl rfl (hpush.out _) ?_; intro v8 w8 st8; replace st8 := Lib.hid st8))
            go_roundw
            case rel => exact ⟨i + 1, by omega, by go_num, by rw [ef.out]; exact st8⟩
            case measure => simp [intOf]; omega
        · obtain rfl : i = n := by omega
          have d1 : decide ((i : Int) < (i : Int)) = false := decide_eq_false (by omega)
          have etk : D5.waits.take i = D5.waits := by rw [← hn, List.take_length]
          have st := st.out
          rw [etk] at st
          have P := st.p
          have c3 := P.c3
          have z3 := P.row.frozen 3
          obtain ⟨P9, U9⟩ := P.q.putWaits st.l
          have U := st.u
          obtain ⟨lo, ln, lc, rfl⟩ : ∃ a n c, u9 = .slice a n c := by
            obtain ⟨L, hL⟩ := st.l
            obtain ⟨a, c, e, _⟩ := hL.form
            exact ⟨a, _, c, e⟩
          rw [eF.out] at P9
          clear hlt hi etk
          replace P := Lib.hid P
          replace st := Lib.hid st
          replace P9 := Lib.hid P9
          replace U9 := Lib.hid U9
          replace U := Lib.hid U
          go_wp2_with fail
          go_ret
          exact ⟨rfl, ⟨ms, mh, _, P9.out⟩, U.out.trans U9.out (fun k _ e => by rw [e]; exact hfb)⟩
    · have d := done 3 (.inr hl2) (by unfold Dk.tamperE; rw [if_neg hns, if_pos hl2])
      have d5 : ((t.length : Int) != 512) = true := by simp; omega
      have d6 : ((t.length : Int) == 512) = false := by simp; omega
      have d7 : ¬ t.length = 512 := hl2
      clear done
      generalize D.tamperE s t.length = E at *
      obtain ⟨rfl, dA, dU⟩ := d
      replace h := Lib.hid h
      replace ct := Lib.hid ct
      replace dA := Lib.hid dA
      replace dU := Lib.hid dU
      replace ht := Lib.hid ht
      go_enter Tryd.func40, Tryd.ntmps40
      go_wp2_with fail
      refine ct.out.mono ?_
      rintro e _ ⟨rfl, rfl⟩
      go_wp2_with fail
      go_ret
      exact ⟨rfl, dA.out, dU.out⟩
end
end Go.Proofs.YtjhfoddhpmmjoaaDoor
