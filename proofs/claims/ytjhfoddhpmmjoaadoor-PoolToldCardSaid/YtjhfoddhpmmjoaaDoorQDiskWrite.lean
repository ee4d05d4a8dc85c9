/-
  disk: change, Fail, Write. Conditions: the disk's blocks are its own; not too many calls, nor writes that wait.
-/
import Derived.Test.YtjhfoddhpmmjoaaDoorQDiskRead
namespace Go.Proofs.YtjhfoddhpmmjoaaDoor
set_option maxRecDepth 100000
open Go.RowKit Go.Maps

def Dk.changeE (D : Dk) : Int := if D.plan = true ∧ D.left = 0 then 30 else 0
def Dk.changeD (D : Dk) : Dk := if D.plan = true ∧ D.left = 0 then { D with down := true } else { D with left := if D.plan = true then D.left - 1 else D.left, calls := D.calls + 1 }
section
variable {w w' : World} {F G : Nat → Prop} {b ms mh : Nat} {wv : Value} {D : Dk}
theorem diskF_other {D D' : Dk} {ms mh : Nat} {wv : Value} {j : Nat} (hn : D'.n = D.n) (hr : D'.reg = D.reg) (h68 : j = 68 → D'.calls = D.calls) (h69 : j = 69 → D'.plan = D.plan) (h70 : j = 70 → D'.left = D.left) (h71 : ¬ j < 71 → D'.down = D.down) : diskF D' ms mh wv j = diskF D ms mh wv j := by
  unfold diskF
  rw [hn, hr]
  split
  · rfl
  · split
    · rfl
    · split
      · rfl
      · split
        · rfl
        · split
          · rfl
          · split
            · rename_i h; rw [h68 h]
            · split
              · rename_i h; rw [h69 h]
              · split
                · rename_i h; rw [h70 h]
                · rw [h71 (by omega)]
theorem DiskP.setDown (h : DiskP w F b ms mh wv D) : DiskP (w.setCell ⟨b, 71, none⟩ (.bool true)) F b ms mh wv { D with down := true } ∧ Upd (fun k => k = b) w (w.setCell ⟨b, 71, none⟩ (.bool true)) :=
  h.set 71 _ rfl (fun j hj hne => diskF_other rfl rfl (fun _ => rfl) (fun _ => rfl) (fun _ => rfl) (fun h => absurd (show j = 71 by omega) hne)) rfl rfl rfl rfl
theorem DiskP.setLeft (h : DiskP w F b ms mh wv D) (v : Nat) : DiskP (w.setCell ⟨b, 70, none⟩ (.int .i64 (v : Int))) F b ms mh wv { D with left := v } ∧ Upd (fun k => k = b) w (w.setCell ⟨b, 70, none⟩ (.int .i64 (v : Int))) :=
  h.set 70 _ rfl (fun _ _ hne => diskF_other rfl rfl (fun _ => rfl) (fun _ => rfl) (fun e => absurd e hne) (fun _ => rfl)) rfl rfl rfl rfl
theorem DiskP.setPlan (h : DiskP w F b ms mh wv D) (v : Bool) : DiskP (w.setCell ⟨b, 69, none⟩ (.bool v)) F b ms mh wv { D with plan := v } ∧ Upd (fun k => k = b) w (w.setCell ⟨b, 69, none⟩ (.bool v)) :=
  h.set 69 _ rfl (fun _ _ hne => diskF_other rfl rfl (fun _ => rfl) (fun e => absurd e hne) (fun _ => rfl) (fun _ => rfl)) rfl rfl rfl rfl
theorem DiskP.setCalls (h : DiskP w F b ms mh wv D) (v : Nat) : DiskP (w.setCell ⟨b, 68, none⟩ (.int .i64 (v : Int))) F b ms mh wv { D with calls := v } ∧ Upd (fun k => k = b) w (w.setCell ⟨b, 68, none⟩ (.int .i64 (v : Int))) :=
  h.set 68 _ rfl (fun _ _ hne => diskF_other rfl rfl (fun e => absurd e hne) (fun _ => rfl) (fun _ => rfl) (fun _ => rfl)) rfl rfl rfl rfl
theorem DiskP.frozen (h : DiskP w F b ms mh wv D) (i : Nat) : w.frozen? ⟨b, i, none⟩ = false := h.row.frozen i
set_option maxRecDepth 100000 in
theorem dchange_any (h : DiskP w F b ms mh wv D) (hc : D.calls < 1000000000000) (hlf : D.left ≤ 9223372036854775807) : Calls Tryd.prog 79 #[.pointer (some ⟨b, 0, none⟩)] w fun e w' => e = .returned (.int .i64 D.changeE) ∧ DiskP w' F b ms mh wv D.changeD ∧ Upd (fun k => k = b) w w' := by
  have c68 := h.c68
  have c69 := h.c69
  have c70 := h.c70
  have c71 := h.c71
  have z71 := h.frozen 71
  have z70 := h.frozen 70
  have z68 := h.frozen 68
  obtain ⟨n, su, sh, wa, rg, ca, pl, le, dn⟩ := D
  have w1 : IntKind.i64.wrap ((ca : Int) + 1) = (ca : Int) + 1 := IntWalk.i64_in _ (by simp only at hc; omega)
  cases pl with
  | false =>
    obtain ⟨P1, U1⟩ := h.setCalls (ca + 1)
    have e1 : (((ca + 1 : Nat) : Nat) : Int) = (ca : Int) + 1 := by omega
    simp only [e1] at P1 U1
    have eE : Dk.changeE ⟨n, su, sh, wa, rg, ca, false, le, dn⟩ = 0 := by unfold Dk.changeE; rw [if_neg (by simp)]
    have eD : Dk.changeD ⟨n, su, sh, wa, rg, ca, false, le, dn⟩ = ⟨n, su, sh, wa, rg, ca + 1, false, le, dn⟩ := by unfold Dk.changeD; rw [if_neg (by simp)]; rfl
    rw [eE, eD]
    replace h := Lib.hid h
    replace P1 := Lib.hid P1
    replace U1 := Lib.hid U1
    replace eE := Lib.hid eE
    replace eD := Lib.hid eD
    go_enter Tryd.func79, Tryd.ntmps79
    go_wp2_with fail
    go_ret
    exact ⟨rfl, P1.out, U1.out⟩
  | true =>
    by_cases hl : le = 0
    · have d1 : ((le : Int) == 0) = true := by simp [hl]
      obtain ⟨P1, U1⟩ := h.setDown
      have eE : Dk.changeE ⟨n, su, sh, wa, rg, ca, true, le, dn⟩ = 30 := by unfold Dk.changeE; rw [if_pos ⟨rfl, hl⟩]
      have eD : Dk.changeD ⟨n, su, sh, wa, rg, ca, true, le, dn⟩ = ⟨n, su, sh, wa, rg, ca, true, le, true⟩ := by unfold Dk.changeD; rw [if_pos ⟨rfl, hl⟩]
      rw [eE, eD]
      replace h := Lib.hid h
      replace P1 := Lib.hid P1
      replace U1 := Lib.hid U1
      replace eE := Lib.hid eE
      replace eD := Lib.hid eD
      replace hl := Lib.hid hl
      go_enter Tryd.func79, Tryd.ntmps79
      go_wp2_with fail
      go_ret
      exact ⟨rfl, P1.out, U1.out⟩
    · have d1 : ((le : Int) == 0) = false := by simp; omega
      have d2 : ¬ (le : Int) = 0 := by omega
      have w2 : IntKind.i64.wrap ((le : Int) - 1) = (le : Int) - 1 := IntWalk.i64_in _ (by simp only at hlf; omega)
      obtain ⟨P1, U1⟩ := h.setLeft (le - 1)
      obtain ⟨P2, U2⟩ := P1.setCalls (ca + 1)
      have y68 := P1.c68
      have y69 := P1.c69
      have x68 := P1.frozen 68
      have U3 := U1.trans U2 (fun _ _ e => e)
      have e1 : (((ca + 1 : Nat) : Nat) : Int) = (ca : Int) + 1 := by omega
      have e2 : (((le - 1 : Nat) : Nat) : Int) = (le : Int) - 1 := by omega
      simp only [e1, e2] at P2 U3 y68 y69 x68
      have eE : Dk.changeE ⟨n, su, sh, wa, rg, ca, true, le, dn⟩ = 0 := by unfold Dk.changeE; rw [if_neg (fun e => hl e.2)]
      have eD : Dk.changeD ⟨n, su, sh, wa, rg, ca, true, le, dn⟩ = ⟨n, su, sh, wa, rg, ca + 1, true, le - 1, dn⟩ := by unfold Dk.changeD; rw [if_neg (fun e => hl e.2)]; rfl
      rw [eE, eD]
      clear P1 U1 U2 e1 e2
      replace h := Lib.hid h
      replace P2 := Lib.hid P2
      replace U3 := Lib.hid U3
      replace eE := Lib.hid eE
      replace eD := Lib.hid eD
      replace hl := Lib.hid hl
      go_enter Tryd.func79, Tryd.ntmps79
      go_wp2_with fail
      go_ret
      exact ⟨rfl, P2.out, U3.out⟩
set_option maxRecDepth 100000 in
theorem dfail_ok (h : DiskP w F b ms mh wv D) (c : Nat) : Calls Tryd.prog 41 #[.pointer (some ⟨b, 0, none⟩), .int .i64 (c : Int)] w fun e w' => e = .returned (.int .i64 0) ∧ DiskP w' F b ms mh wv { D with plan := true, left := c } ∧ Upd (fun k => k = b) w w' := by
  have cs := Lib.hid (dsize_any ⟨ms, mh, wv, h⟩)
  have hlo := h.lo
  have c69 := h.c69
  have c70 := h.c70
  have z69 := h.frozen 69
  have z70 := h.frozen 70
  obtain ⟨P1, U1⟩ := h.setPlan true
  obtain ⟨P2, U2⟩ := P1.setLeft c
  have y70 := P1.c70
  have x70 := P1.frozen 70
  have U3 := U1.trans U2 (fun _ _ e => e)
  have d0 : ((D.n : Int) == 0) = false := by simp; omega
  have d1 : ¬ (D.n : Int) = 0 := by omega
  have d2 : decide ((c : Int) < 0) = false := decide_eq_false (by omega)
  clear P1 U1 U2
  replace h := Lib.hid h
  replace P2 := Lib.hid P2
  replace U3 := Lib.hid U3
  go_enter Tryd.func41, Tryd.ntmps41
  go_wp2_with fail
  refine cs.out.mono ?_
  rintro e _ ⟨rfl, rfl⟩
  go_wp2_with fail
  go_ret
  exact ⟨rfl, P2.out, U3.out⟩
/-- A map's block turned: what of a disk stays. -/
theorem Upd.text {mb : Nat} {M : Nat → Option (List Nat)} (hm : SecMap w F mb M) (hU : Upd (fun k => k = mb) w w') {v : Value} {t : List Nat} (ho : OwnT w G v t) : OwnT w' G v t :=
  ⟨ho.own.other (fun j hj => hU.block j (ho.own.lt j hj).2 (ho.ne_sec hm j hj)), ho.small, ho.inF⟩
theorem Upd.sec {mb mc : Nat} {M N : Nat → Option (List Nat)} (hm : SecMap w F mb M) (hU : Upd (fun k => k = mb) w w') (hn : SecMap w G mc N) (hne : mc ≠ mb) : SecMap w' G mc N := by
  obtain ⟨k, C, hc⟩ := hn
  exact ⟨k, C, hc.map.other (hU.block mc hc.map.lt hne), fun key v hv => by
    obtain ⟨s, t, e1, e2, e3, e4, e5⟩ := hc.all key v hv
    exact ⟨s, t, e1, e2, e3, Upd.text hm hU e4, e5⟩, hc.has, hc.inF⟩
theorem Upd.waits {mb : Nat} {M : Nat → Option (List Nat)} (hm : SecMap w F mb M) (hU : Upd (fun k => k = mb) w w') {Q : List (Nat × List Nat)} (h : Waits w G wv Q) : Waits w' G wv Q := by
  obtain ⟨L, hL⟩ := h
  refine ⟨L, hL.len, fun j u p a c => by obtain ⟨e1, e2, e3⟩ := hL.all j u p a c; exact ⟨e1, e2, Upd.text hm hU e3⟩, ?_, hL.inF⟩
  rcases hL.row with r | ⟨e, g, rfl, hg⟩
  · left
    refine ⟨r.1, ?_⟩
    rcases r.2 with hn | ⟨g, cap, cur, rfl, hb, hgg, rest⟩
    · exact .inl hn
    · exact .inr ⟨g, cap, cur, rfl, hb, hU.at hgg (hm.ne_cells hgg), rest⟩
  · exact .inr ⟨e, g, rfl, Nat.lt_of_lt_of_le hg hU.size⟩
theorem DiskP.putShown (h : DiskP w F b ms mh wv D) {s : Nat} (hs : s < 4294967296) {v : Value} {t : List Nat} (ho : OwnT w F v t) (hl : t.length = 512) :
    ∃ w', (Instr.mapUpdate 122 (.map (some mh)) (.int .u32 (s : Int)) v).run Tryd.prog w = .ok () w' ∧ DiskP w' F b ms mh wv { D with shown := updM D.shown s t } ∧ OwnT w' F v t ∧ Upd (fun k => k = mh) w w' := by
  have hm := h.shown
  obtain ⟨k, C, hc⟩ := h.shown
  obtain ⟨w', hr, h1, h2⟩ := hc.map.update u32Law Tryd.underlying122 (x := .int .u32 (s : Int)) (v := v) (u32_key hs)
  obtain ⟨cs, hcs⟩ : ∃ cs, w.heap[b]? = some (.cells cs 126 (0, 0)) := by obtain ⟨cs, h1, _⟩ := h.row; exact ⟨cs, h1⟩
  exact ⟨w', hr, ⟨h.row.of_block (h2.block b h.row.lt (hm.ne_cells hcs)), h.fb, Upd.sec hm h2 h.sure h.ne, hc.put hs ho hl h1 h2, h.ne, Upd.waits hm h2 h.wait, h.lo, h.hi⟩, Upd.text hm h2 ho, h2⟩
theorem DiskP.putSure (h : DiskP w F b ms mh wv D) {s : Nat} (hs : s < 4294967296) {v : Value} {t : List Nat} (ho : OwnT w F v t) (hl : t.length = 512) :
    ∃ w', (Instr.mapUpdate 122 (.map (some ms)) (.int .u32 (s : Int)) v).run Tryd.prog w = .ok () w' ∧ DiskP w' F b ms mh wv { D with sure := updM D.sure s t } ∧ OwnT w' F v t ∧ Upd (fun k => k = ms) w w' := by
  have hm := h.sure
  obtain ⟨k, C, hc⟩ := h.sure
  obtain ⟨w', hr, h1, h2⟩ := hc.map.update u32Law Tryd.underlying122 (x := .int .u32 (s : Int)) (v := v) (u32_key hs)
  obtain ⟨cs, hcs⟩ : ∃ cs, w.heap[b]? = some (.cells cs 126 (0, 0)) := by obtain ⟨cs, h1, _⟩ := h.row; exact ⟨cs, h1⟩
  exact ⟨w', hr, ⟨h.row.of_block (h2.block b h.row.lt (hm.ne_cells hcs)), h.fb, hc.put hs ho hl h1 h2, Upd.sec hm h2 h.shown (fun e => h.ne e.symm), h.ne, Upd.waits hm h2 h.wait, h.lo, h.hi⟩, Upd.text hm h2 ho, h2⟩
/-- A disk but for its slice of writes. -/
structure DiskQ (w : World) (F : Nat → Prop) (b ms mh : Nat) (wv : Value) (D : Dk) : Prop where
  row : w.rowIs b 126 72 (diskF D ms mh wv)
  fb : F b
  sure : SecMap w F ms D.sure
  shown : SecMap w F mh D.shown
  ne : ms ≠ mh
  lo : 1 ≤ D.n
  hi : D.n ≤ 65536
theorem DiskP.q (h : DiskP w F b ms mh wv D) : DiskQ w F b ms mh wv D := ⟨h.row, h.fb, h.sure, h.shown, h.ne, h.lo, h.hi⟩
theorem DiskQ.writes (h : DiskQ w F b ms mh wv D) (hW : Writes w w' G) : DiskQ w' F b ms mh wv D := by
  obtain ⟨c, h1, h2, h3⟩ := h.row
  exact ⟨⟨c, hW.cells h1 (by decide), h2, h3⟩, h.fb, hW.map h.sure, hW.map h.shown, h.ne, h.lo, h.hi⟩
theorem DiskQ.mono (h : DiskQ w F b ms mh wv D) (hG : ∀ k, F k → G k) : DiskQ w G b ms mh wv D := ⟨h.row, hG b h.fb, h.sure.mono hG, h.shown.mono hG, h.ne, h.lo, h.hi⟩
/-- The slice of writes turned. -/
theorem DiskQ.putWaits (h : DiskQ w F b ms mh wv D) {wv' : Value} {Q : List (Nat × List Nat)} (hw : Waits w F wv' Q) : DiskP (w.setCell ⟨b, 3, none⟩ wv') F b ms mh wv' { D with waits := Q } ∧ Upd (fun k => k = b) w (w.setCell ⟨b, 3, none⟩ wv') := by
  have hU : Upd (fun k => k = b) w (w.setCell ⟨b, 3, none⟩ wv') := (Upd.refl _ w).setCell ⟨b, 3, none⟩ _ (fun _ => rfl)
  obtain ⟨cs, hcs⟩ : ∃ cs, w.heap[b]? = some (.cells cs 126 (0, 0)) := by obtain ⟨cs, h1, _⟩ := h.row; exact ⟨cs, h1⟩
  have keep : ∀ u x, OwnT w F u x → OwnT (w.setCell ⟨b, 3, none⟩ wv') F u x := fun u x hu => ⟨hu.own.other (fun j hj => hU.block j (hu.own.lt j hj).2 (fun e => by
    obtain ⟨cur, hc⟩ := hu.own.typed hj
    rw [e, hcs] at hc
    simp at hc)), hu.small, hu.inF⟩
  have map : ∀ mb M, SecMap w F mb M → SecMap (w.setCell ⟨b, 3, none⟩ wv') F mb M := fun mb M hm => by
    have hmb := hU.block mb hm.lt (fun e => hm.ne_cells hcs e.symm)
    obtain ⟨k, C, hc⟩ := hm
    exact ⟨k, C, hc.map.other hmb, fun key v hv => by
      obtain ⟨s, t, e1, e2, e3, e4, e5⟩ := hc.all key v hv
      exact ⟨s, t, e1, e2, e3, keep _ _ e4, e5⟩, hc.has, hc.inF⟩
  obtain ⟨L, hL⟩ := hw
  refine ⟨⟨(h.row.set 3 wv').congr fun j _ => ?_, h.fb, map _ _ h.sure, map _ _ h.shown, h.ne, ?_, h.lo, h.hi⟩, hU⟩
  · by_cases e : j = 3
    · subst e; rfl
    · rw [if_neg e]; unfold diskF; simp only [if_neg e]
  · refine ⟨L, hL.len, fun j u p a c => by obtain ⟨e1, e2, e3⟩ := hL.all j u p a c; exact ⟨e1, e2, keep _ _ e3⟩, ?_, hL.inF⟩
    rcases hL.row with r | ⟨e, g, rfl, hg⟩
    · left
      refine ⟨r.1, ?_⟩
      rcases r.2 with hn | ⟨g, cap, cur, rfl, hb, hgg, rest⟩
      · exact .inl hn
      · exact .inr ⟨g, cap, cur, rfl, hb, hU.at hgg (fun e => by rw [e, hcs] at hgg; simp at hgg), rest⟩
    · exact .inr ⟨e, g, rfl, by simpa using hg⟩
/-- One more write waits: the append and the store. -/
theorem DiskP.pushed (h : DiskP w F b ms mh wv D) {s : Nat} {t : List Nat} {v : Value} (hs : s < 4294967296) (ho : OwnT w F v t) (hl : t.length = 512) {hb : Nat} (hc : w.heap[hb]? = some (.cells #[.int .u32 (s : Int), v] 128 (0, 0))) (hq : D.waits.length < 1000000000) (ty : TypeId) :
    ∃ wv' w', (Builtin.append_ #[123, 123] ty #[wv, .slice (some ⟨hb, 0, none⟩) 1 1]).run Tryd.prog w = .ok wv' w' ∧ (w'.cell? ⟨b, 3, none⟩ = some wv ∧ w'.frozen? ⟨b, 3, none⟩ = false ∧ (∃ ao n c, wv' = .slice ao n c) ∧ Upd F w w' ∧ DiskP (w'.setCell ⟨b, 3, none⟩ wv') (fun k => F k ∨ w.heap.size ≤ k) b ms mh wv' { D with waits := D.waits ++ [(s, t)] } ∧ Upd (fun k => k = b) w' (w'.setCell ⟨b, 3, none⟩ wv')) := by
  obtain ⟨wv', w', hr, h1, h2, _, h4, _⟩ := h.wait.push hs ho hl hc hq ty
  have q := (h.q.writes h2).mono (G := fun k => F k ∨ w.heap.size ≤ k) (fun _ hk => .inl hk)
  obtain ⟨P, U⟩ := q.putWaits h1
  exact ⟨wv', w', hr, q.row.cell (i := 3) (by decide), q.row.frozen 3, h4, h2.upd, P, U⟩
def Dk.writeE (D : Dk) (s len : Nat) : Int := if D.down = true then 30 else if D.n ≤ s then 31 else if len ≠ 512 then 3 else D.changeE
def Dk.writeD (D : Dk) (s : Nat) (t : List Nat) : Dk := if D.down = true ∨ D.n ≤ s ∨ t.length ≠ 512 then D else if D.changeE = 0 then { D.changeD with shown := updM D.shown s t, waits := D.waits ++ [(s, t)] } else D.changeD
set_option maxHeartbeats 4000000 in
set_option maxRecDepth 100000 in
theorem dwrite_any (h0 : DiskAt w F b D) (s : Nat) (hs : s < 4294967296) (v : Value) (t : List Nat) (ht : ∀ w', Upd F w w' → TextAt w' v t) (hl : t.length < 1000000000) (hc : D.calls < 1000000000000) (hlf : D.left ≤ 9223372036854775807) (hq : D.waits.length < 1000000000) :
    Calls Tryd.prog 63 #[.pointer (some ⟨b, 0, none⟩), .int .u32 (s : Int), v] w fun e w' => e = .returned (.int .i64 (D.writeE s t.length)) ∧ DiskAt w' (fun k => F k ∨ w.heap.size ≤ k) b (D.writeD s t) ∧ Upd F w w' := by
  obtain ⟨ao, cap, rfl, _⟩ := (ht w (Upd.refl _ _)).ex
  have ca := dask_any h0
  have ct := dthere_any h0 s hs
  obtain ⟨ms, mh, wv, h⟩ := h0
  have cc := dchange_any h hc hlf
  have hfb := h.fb
  have done : ∀ E, (D.down = true ∨ D.n ≤ s ∨ t.length ≠ 512) → D.writeE s t.length = E → E = D.writeE s t.length ∧ DiskAt w (fun k => F k ∨ w.heap.size ≤ k) b (D.writeD s t) ∧ Upd F w w := fun E h1 h2 => by
    refine ⟨h2.symm, ?_, Upd.refl _ _⟩
    unfold Dk.writeD
    rw [if_pos h1]
    exact ⟨ms, mh, wv, h.mono fun _ hk => .inl hk⟩
  unfold Dk.askE at ca
  unfold Dk.thereE at ct
  cases hd : D.down with
  | true =>
    rw [hd, if_pos rfl] at ca
    have d := done 30 (.inl hd) (by unfold Dk.writeE; rw [if_pos hd])
    clear done
    generalize D.writeE s t.length = E at *
    obtain ⟨rfl, dA, dU⟩ := d
    replace h := Lib.hid h
    replace hd := Lib.hid hd
    replace ct := Lib.hid ct
    replace cc := Lib.hid cc
    replace dA := Lib.hid dA
    replace dU := Lib.hid dU
    replace ht := Lib.hid ht
    go_enter Tryd.func63, Tryd.ntmps63
    go_wp2_with fail
    refine ca.mono ?_
    rintro e _ ⟨rfl, rfl⟩
    go_wp2_with fail
    go_ret
    exact ⟨rfl, dA.out, dU.out⟩
  | false =>
    rw [hd, if_neg (by decide)] at ca
    by_cases hns : D.n ≤ s
    · rw [if_pos hns] at ct
      have d := done 31 (.inr (.inl hns)) (by unfold Dk.writeE; rw [if_neg (by rw [hd]; decide), if_pos hns])
      clear done
      generalize D.writeE s t.length = E at *
      obtain ⟨rfl, dA, dU⟩ := d
      replace h := Lib.hid h
      replace hd := Lib.hid hd
      replace ca := Lib.hid ca
      replace ct := Lib.hid ct
      replace cc := Lib.hid cc
      replace dA := Lib.hid dA
      replace dU := Lib.hid dU
      replace ht := Lib.hid ht
      go_enter Tryd.func63, Tryd.ntmps63
      go_wp2_with fail
      refine ca.out.mono ?_
      rintro e _ ⟨rfl, rfl⟩
      go_wp2_with fail
      refine ct.out.mono ?_
      rintro e _ ⟨rfl, rfl⟩
      go_wp2_with fail
      go_ret
      exact ⟨rfl, dA.out, dU.out⟩
    · rw [if_neg hns] at ct
      by_cases hl2 : t.length = 512
      · have eE : D.writeE s t.length = D.changeE := by unfold Dk.writeE; rw [if_neg (by rw [hd]; decide), if_neg hns, if_neg (fun e => e hl2)]
        have d5 : ((t.length : Int) != 512) = false := by simp; omega
        have d6 : ((t.length : Int) == 512) = true := by simp; omega
        have nd : ¬ (D.down = true ∨ D.n ≤ s ∨ t.length ≠ 512) := by
          rintro (e | e | e)
          · rw [hd] at e; simp at e
          · exact hns e
          · exact e hl2
        have keepB : ∀ wx, Upd (fun k => k = b) w wx → Upd F w wx := fun wx u => u.mono fun k _ e => by rw [e]; exact hfb
        have hn2 : D.changeD.shown = D.shown ∧ D.changeD.waits = D.waits := by unfold Dk.changeD; split <;> exact ⟨rfl, rfl⟩
        rw [eE]
        by_cases he : D.changeE = 0
        · have eD : D.writeD s t = { D.changeD with shown := updM D.shown s t, waits := D.waits ++ [(s, t)] } := by unfold Dk.writeD; rw [if_neg nd, if_pos he]
          rw [eD, he]
          rw [he] at cc
          clear done
          replace h := Lib.hid h
          replace hd := Lib.hid hd
          replace ca := Lib.hid ca
          replace ct := Lib.hid ct
          replace cc := Lib.hid cc
          replace ht := Lib.hid ht
          replace nd := Lib.hid nd
          replace keepB := Lib.hid keepB
          replace eE := Lib.hid eE
          replace he := Lib.hid he
          replace eD := Lib.hid eD
          replace hn2 := Lib.hid hn2
          replace hl2 := Lib.hid hl2
          go_enter Tryd.func63, Tryd.ntmps63
          go_wp2_with fail
          refine ca.out.mono ?_
          rintro e _ ⟨rfl, rfl⟩
          go_wp2_with fail
          refine ct.out.mono ?_
          rintro e _ ⟨rfl, rfl⟩
          go_wp2_with fail
          refine cc.out.mono ?_
          rintro e w1 ⟨rfl, P1, U1⟩
          have t1 := ht.out w1 (keepB.out _ U1)
          have cl := clone_any w1 _ t t1 (by omega)
          have sz1 := U1.size
          replace P1 := Lib.hid P1
          replace U1 := Lib.hid U1
          replace cl := Lib.hid cl
          go_wp2_with fail
          refine cl.out.mono ?_
          rintro e w2 ⟨v2, rfl, o2, B2⟩
          have P2 : DiskP w2 (fun k => F k ∨ w.heap.size ≤ k) b ms mh wv D.changeD := (P1.out.stay (fun k _ hk => B2.block k hk)).mono fun _ hk => .inl hk
          have ow2 : OwnT w2 (fun k => F k ∨ w.heap.size ≤ k) v2 t := ⟨o2.weaken (Nat.zero_le _), t1.small, fun k hk => .inr (by have := (o2.lt k hk).1; omega)⟩
          obtain ⟨vo, vc, ev, _⟩ := o2.form
          subst ev
          obtain ⟨w3, hput, P3, ow3, U3⟩ := P2.putShown hs ow2 hl2.out
          have c2 := P2.c2
          have c3 := P3.c3
          have hmh : F mh := P1.out.shown.inF
          have U13 : Upd F w w3 := ((keepB.out _ U1.out).trans (Upd.of_below (S := F) B2) (fun _ _ e => e)).trans U3 (fun k _ e => by rw [e]; exact hmh)
          have hq3 : D.changeD.waits.length < 1000000000 := by rw [hn2.out.2]; exact hq
          have BA : Below w3.heap.size w3 (w3.alloc (.cells #[.int .u32 (s : Int), .slice vo (u8l t).length vc] 128)) := (Below.refl _ _).alloc (Nat.le_refl _) _
          have Pa := P3.stay (fun k _ hk => BA.block k hk)
          have hpush := fun ty => Pa.pushed hs (ow3.stay (fun k _ hk => BA.block k hk)) hl2.out (heap_alloc_new _ _) hq3 ty
          have Ua := U13.trans (Upd.of_below (S := F) BA) (fun _ _ e => e)
          replace P2 := Lib.hid P2
          replace P3 := Lib.hid P3
          replace ow2 := Lib.hid ow2
          replace ow3 := Lib.hid ow3
          replace U3 := Lib.hid U3
          replace o2 := Lib.hid o2
          replace B2 := Lib.hid B2
          replace t1 := Lib.hid t1
          replace hmh := Lib.hid hmh
          replace U13 := Lib.hid U13
          replace hq3 := Lib.hid hq3
          replace BA := Lib.hid BA
          replace Pa := Lib.hid Pa
          replace hpush := Lib.hid hpush
          replace Ua := Lib.hid Ua
          go_wp2_with (refine wpList_append_run1 (by rfl) (.tmp 42) (.tmp 46) 123 rfl wv (.slice (some ⟨w3.heap.size, 0, none⟩) 1 1) rfl rfl (hpush.out _) ?_; rintro v4 w4 ⟨c4, z4, ⟨ao4, n4, k4, rfl⟩, U4, P5, U5⟩; replace U4 := Lib.hid U4; replace P5 := Lib.hid P5; replace U5 := Lib.hid U5)
          go_ret
          refine ⟨rfl, ⟨ms, mh, .slice ao4 n4 k4, ?_⟩, ?_⟩
          · have P6 := P5.out.mono (G := fun k => F k ∨ w.heap.size ≤ k) (fun k hk => by
              have s1 := U13.out.size
              have s2 := BA.out.size
              rcases hk with hk | hk
              · exact hk
              · exact .inr (by omega))
            have e6 : ({ D.changeD with shown := updM D.changeD.shown s t, waits := D.changeD.waits ++ [(s, t)] } : Dk) = { D.changeD with shown := updM D.shown s t, waits := D.waits ++ [(s, t)] } := by rw [hn2.out.1, hn2.out.2]
            rw [← e6]
            exact P6
          · refine (Ua.out.trans U4.out (fun k hk e => ?_)).trans U5.out (fun k hk e => ?_)
            · rcases e with e | e
              · exact e
              · omega
            · rw [e]; exact P1.out.fb
        · have eD : D.writeD s t = D.changeD := by unfold Dk.writeD; rw [if_neg nd, if_neg he]
          have eE3 : D.changeE = 30 := by
            unfold Dk.changeE at he ⊢
            split
            · rfl
            · rename_i q; rw [if_neg q] at he; exact absurd rfl he
          rw [eD, eE3]
          rw [eE3] at cc
          clear done
          replace h := Lib.hid h
          replace hd := Lib.hid hd
          replace ca := Lib.hid ca
          replace ct := Lib.hid ct
          replace cc := Lib.hid cc
          replace ht := Lib.hid ht
          replace nd := Lib.hid nd
          replace keepB := Lib.hid keepB
          replace eE := Lib.hid eE
          replace he := Lib.hid he
          replace eD := Lib.hid eD
          replace hn2 := Lib.hid hn2
          replace hl2 := Lib.hid hl2
          replace eE3 := Lib.hid eE3
          go_enter Tryd.func63, Tryd.ntmps63
          go_wp2_with fail
          refine ca.out.mono ?_
          rintro e _ ⟨rfl, rfl⟩
          go_wp2_with fail
          refine ct.out.mono ?_
          rintro e _ ⟨rfl, rfl⟩
          go_wp2_with fail
          refine cc.out.mono ?_
          rintro e w1 ⟨rfl, P1, U1⟩
          replace P1 := Lib.hid P1
          replace U1 := Lib.hid U1
          go_wp2_with fail
          go_ret
          exact ⟨rfl, ⟨ms, mh, wv, P1.out.mono fun _ hk => .inl hk⟩, keepB.out _ U1.out⟩
      · have d := done 3 (.inr (.inr hl2)) (by unfold Dk.writeE; rw [if_neg (by rw [hd]; decide), if_neg hns, if_pos hl2])
        have d5 : ((t.length : Int) != 512) = true := by simp; omega
        have d6 : ((t.length : Int) == 512) = false := by simp; omega
        have d7 : ¬ t.length = 512 := hl2
        clear done
        generalize D.writeE s t.length = E at *
        obtain ⟨rfl, dA, dU⟩ := d
        replace h := Lib.hid h
        replace hd := Lib.hid hd
        replace ca := Lib.hid ca
        replace ct := Lib.hid ct
        replace cc := Lib.hid cc
        replace dA := Lib.hid dA
        replace dU := Lib.hid dU
        replace ht := Lib.hid ht
        go_enter Tryd.func63, Tryd.ntmps63
        go_wp2_with fail
        refine ca.out.mono ?_
        rintro e _ ⟨rfl, rfl⟩
        go_wp2_with fail
        refine ct.out.mono ?_
        rintro e _ ⟨rfl, rfl⟩
        go_wp2_with fail
        go_ret
        exact ⟨rfl, dA.out, dU.out⟩
end
end Go.Proofs.YtjhfoddhpmmjoaaDoor
