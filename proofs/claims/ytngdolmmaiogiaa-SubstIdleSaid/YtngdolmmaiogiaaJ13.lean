/- Joined: MerB LigD. -/
import Derived.Test.YtngdolmmaiogiaaJ10
import Derived.Test.YtngdolmmaiogiaaJ12
import Derived.Test.YtngdolmmaiogiaaJ09

/- The walk of buffer.Merge. Condition: the buffer reads as one; a stretch within it. Printed by wip/tools. -/
namespace Go.Proofs.Ytngdolmmaiogiaa
open Go.RowKit

set_option maxRecDepth 100000 in
set_option maxHeartbeats 4000000 in
theorem merge_any (B : Nat) (A : Option Addr) (n c : Nat) (gs : List Gl) (p e0 : Nat) (w : World) (h : GlsR w B A n c gs) (hB : B ≤ w.heap.size) (hn : n ≤ 100000) (hp : p < e0) (he : e0 ≤ n) :
    Calls Try.prog 62 #[.slice A n c, .int .i64 (p : Int), .int .i64 (e0 : Int)] w (RetGls w w.heap.size (mergeB gs p e0)) := by
  have hcap := h.cap
  obtain ⟨b, o, gp, rfl, hbb, hgp, -⟩ := h.at_ (k := p) (by omega)
  have HPT := Lib.hid (h.part (i := p) (j := e0) (by omega) he)
  have HGL := Lib.hid h.length
  have HI := Lib.hid h
  clear h hgp
  have hcp : ¬ c = p := by omega
  have z0 : ((p : Int) == (e0 : Int)) = false := by simp; omega
  have z1 : (p : Int) ≤ (e0 : Int) := by omega
  have z2 : (e0 : Int) ≤ (c : Int) := by omega
  have z3 : p ≤ e0 := by omega
  have z4 : e0 ≤ c := by omega
  have z5 : (0 : Int) ≤ (p : Int) := by omega
  have z6 : (0 : Int) ≤ (e0 : Int) := by omega
  obtain ⟨cl, hcl⟩ : ∃ z, z = leastB ((gs.drop p).take (e0 - p)) := ⟨_, rfl⟩
  obtain ⟨f0, hf0⟩ : ∃ z, z = mgF gs p := ⟨_, rfl⟩
  obtain ⟨t0, ht0⟩ : ∃ z, z = mgT gs (n - e0) e0 := ⟨_, rfl⟩
  have hff : f0 ≤ p := by rw [hf0]; exact mgF_le gs p
  have htt : e0 ≤ t0 := by rw [ht0]; exact mgT_ge gs _ _
  have htn : t0 ≤ n := by rw [ht0]; have := mgT_le gs (n - e0) e0; omega
  have HRES := Lib.hid (show mergeB gs p e0 = stage gs f0 t0 cl by unfold mergeB; rw [hf0, ht0, hcl, HGL.out])
  have HF0 := Lib.hid hf0.symm
  have HT0 := Lib.hid ht0.symm
  have HCL := Lib.hid hcl
  clear hf0 ht0 hcl
  go_enter Try.func62, Try.ntmps62
  go_upto_region 5 with (first
    | (go_at_call 21; refine ((gclone_any B (some ⟨b, o, none⟩) n c gs _ HI.out hB hn).mono (fun _ _ h => h.n HGL.out)).mono ?_; rintro e w2 ⟨A2, c2, rfl, ho2, hb2⟩)
    | (go_at_call 79; refine (stretch_any _ n c p e0 _ (by omega) he).mono ?_; rintro e w3 ⟨rfl, hb3⟩)
    | (go_at_call 74; refine (leastN_any B _ (e0 - p) (c - p) ((gs.drop p).take (e0 - p)) _ ((HPT.out.below (hb2.mono hB)).below (hb3.mono (by have := hb2.size; omega))) (by omega)).mono ?_; rintro e w4 ⟨rfl, hb4⟩))
  rw [← HCL.out]
  have hB2 := hb2.size
  have hb24 := hb3.trans (hb4.mono hb3.size)
  have HB4 := Lib.hid (hb2.trans (hb24.mono hB2))
  have HI4 := Lib.hid (HI.out.below (HB4.out.mono hB))
  have HO4a := ho2.below hb24 (Nat.le_refl _)
  obtain ⟨b7, rfl, -⟩ := HO4a.form (.inl (by omega))
  have HO4 := Lib.hid HO4a
  have hA := Below.refl w4.heap.size w4
  clear ho2 hb2 hb3 hb4 hB2 hb24 HO4a z0 z1 z2 z3 z4 z5 z6 hcp
  go_loopw [1] (fun v wr => ∃ f : Nat, v = .int .i64 (f : Int) ∧ f ≤ p ∧ mgF gs f = f0 ∧ Below w4.heap.size w4 wr) (fun v _ => (intOf v).toNat)
  case atStart => exact ⟨p, rfl, Nat.le_refl _, HF0.out, hA⟩
  case round =>
    clear hA
    obtain ⟨f, rfl, hfp, hfr, hA⟩ := hrel
    have HFR := Lib.hid hfr
    clear hfr
    obtain ⟨t, ht⟩ : ∃ z, z = tF gs f := ⟨_, rfl⟩
    have HT := Lib.hid ht
    clear ht
    go_upto_region 5 with fail
    go_cut [43] (fun v W => v = .bool t ∧ Below w4.heap.size w4 W)
    case first =>
      by_cases hf0 : f = 0
      · obtain rfl : t = false := by rw [HT.out, hf0]; rfl
        subst hf0
        have q0 : decide ((0 : Int) < ((0 : Nat) : Int)) = false := by simp
        have hU0 := bup hA
        have HUP := Lib.hid (bup hA)
        refine wp_region_up wr.heap.size (by kernel_rfl) (by kernel_rfl) ?_
        repeat (go_big_quiet_step (fail))
        refine wpQuiet_nil (up_all fun w5 hb2 => ?_)
        have hA := bgo hA hb2
        clear hb2 HUP hU0
        go_wp2_with fail
        go_meet
        exact ⟨rfl, hA⟩
      · obtain ⟨j, hj⟩ : ∃ j, f = j + 1 := ⟨f - 1, by omega⟩
        obtain ⟨b', o', gj, e', _, hgj, _, cj, -⟩ := HI4.out.at_ (k := j) (by omega)
        cases e'
        obtain ⟨b', o', gf, e', _, hgf, _, cf, -⟩ := HI4.out.at_ (k := f) (by omega)
        cases e'
        have y1 := up_fact cj
        have y2 := up_fact cf
        have HT2 := Lib.hid (show t = decide (gj.cl = gf.cl) by
          have e1 : gs.getD (f - 1) zGl = gj := by rw [show f - 1 = j by omega, List.getD_eq_getElem?_getD, hgj]; rfl
          have e2 : gs.getD f zGl = gf := by rw [List.getD_eq_getElem?_getD, hgf]; rfl
          rw [HT.out]; unfold tF; rw [e1, e2, decide_eq_true (by omega : 0 < f)]; rfl)
        have s1 : IntKind.i64.wrap ((f : Int) - 1) = (j : Int) := by rw [IntKind.wrap_i64]; omega
        have q0 : decide ((0 : Int) < (f : Int)) = true := by simp; omega
        have q1 : decide (0 < f) = true := by simp; omega
        have hjn : j < n := by omega
        have hfn : f < n := by omega
        clear cj cf hgj hgf hj
        by_cases hx : gj.cl = gf.cl
        · obtain rfl : t = true := by rw [HT2.out]; simp [hx]
          have r1 : (gj.cl == gf.cl) = true := by simpa using hx
          clear hx
          have hU0 := bup hA
          have HUP := Lib.hid (bup hA)
          refine wp_region_up wr.heap.size (by kernel_rfl) (by kernel_rfl) ?_
          repeat (go_big_quiet_step (fail))
          refine wpQuiet_nil (up_all fun w5 hb2 => ?_)
          have hA := bgo hA hb2
          clear hb2 HUP hU0
          go_wp2_with fail
          go_meet
          exact ⟨rfl, hA⟩
        · obtain rfl : t = false := by rw [HT2.out]; simp [hx]
          have r1 : (gj.cl == gf.cl) = false := by simpa using hx
          clear hx
          have hU0 := bup hA
          have HUP := Lib.hid (bup hA)
          refine wp_region_up wr.heap.size (by kernel_rfl) (by kernel_rfl) ?_
          repeat (go_big_quiet_step (fail))
          refine wpQuiet_nil (up_all fun w5 hb2 => ?_)
          have hA := bgo hA hb2
          clear hb2 HUP hU0
          go_wp2_with fail
          go_meet
          exact ⟨rfl, hA⟩
    obtain ⟨rfl, hA⟩ := hcut
    rcases t with _ | _
    rotate_left
    · obtain ⟨hf1, hf2⟩ := mgF_go HT.out.symm
      have s1 : IntKind.i64.wrap ((f : Int) - 1) = ((f - 1 : Nat) : Int) := by rw [IntKind.wrap_i64]; omega
      go_wp2_with fail
      go_roundw
      case rel => exact ⟨f - 1, rfl, by omega, by rw [← hf2]; exact HFR.out, hA⟩
      case measure => simp [intOf] <;> omega
    · obtain rfl : f0 = f := by rw [← HFR.out]; exact mgF_stop HT.out.symm
      go_wp2_with fail
      go_loopw [2] (fun v wr => ∃ t : Nat, v = .int .i64 (t : Int) ∧ e0 ≤ t ∧ t ≤ n ∧ mgT gs (n - t) t = t0 ∧ Below w4.heap.size w4 wr) (fun v _ => n - (intOf v).toNat)
      case atStart => exact ⟨e0, rfl, Nat.le_refl _, he, HT0.out, hA⟩
      case round =>
        clear hA
        obtain ⟨f, rfl, hfp, hfn, hfr, hA⟩ := hrel
        have HFR2 := Lib.hid hfr
        clear hfr
        obtain ⟨t, ht⟩ : ∃ z, z = tT gs f := ⟨_, rfl⟩
        have HTT := Lib.hid ht
        clear ht
        go_upto_region 7 with fail
        go_cut [63] (fun v W => v = .bool t ∧ Below w4.heap.size w4 W)
        case first =>
          by_cases hf0 : f = n
          · obtain rfl : t = false := by rw [HTT.out]; unfold tT; rw [HGL.out, decide_eq_false (by omega : ¬ f < n)]; rfl
            have q0 : decide ((f : Int) < (n : Int)) = false := by simp; omega
            have q1 : decide (f < n) = false := by simp; omega
            have hU0 := bup hA
            have HUP := Lib.hid (bup hA)
            refine wp_region_up wr.heap.size (by kernel_rfl) (by kernel_rfl) ?_
            repeat (go_big_quiet_step (fail))
            refine wpQuiet_nil (up_all fun w5 hb2 => ?_)
            have hA := bgo hA hb2
            clear hb2 HUP hU0
            go_wp2_with fail
            go_meet
            exact ⟨rfl, hA⟩
          · obtain ⟨j, hj⟩ : ∃ j, f = j + 1 := ⟨f - 1, by omega⟩
            obtain ⟨b', o', gj, e', _, hgj, _, cj, -⟩ := HI4.out.at_ (k := j) (by omega)
            cases e'
            obtain ⟨b', o', gf, e', _, hgf, _, cf, -⟩ := HI4.out.at_ (k := f) (by omega)
            cases e'
            have y1 := up_fact cj
            have y2 := up_fact cf
            have HT2 := Lib.hid (show t = decide (gf.cl = gj.cl) by
              have e1 : gs.getD (f - 1) zGl = gj := by rw [show f - 1 = j by omega, List.getD_eq_getElem?_getD, hgj]; rfl
              have e2 : gs.getD f zGl = gf := by rw [List.getD_eq_getElem?_getD, hgf]; rfl
              rw [HTT.out]; unfold tT; rw [e1, e2, HGL.out, decide_eq_true (by omega : f < n)]; rfl)
            have s1 : IntKind.i64.wrap ((f : Int) - 1) = (j : Int) := by rw [IntKind.wrap_i64]; omega
            have q0 : decide ((f : Int) < (n : Int)) = true := by simp; omega
            have q1 : decide (f < n) = true := by simp; omega
            have hjn : j < n := by omega
            have hfn2 : f < n := by omega
            clear cj cf hgj hgf hj
            by_cases hx : gf.cl = gj.cl
            · obtain rfl : t = true := by rw [HT2.out]; simp [hx]
              have r1 : (gf.cl == gj.cl) = true := by simpa using hx
              clear hx
              have hU0 := bup hA
              have HUP := Lib.hid (bup hA)
              refine wp_region_up wr.heap.size (by kernel_rfl) (by kernel_rfl) ?_
              repeat (go_big_quiet_step (fail))
              refine wpQuiet_nil (up_all fun w5 hb2 => ?_)
              have hA := bgo hA hb2
              clear hb2 HUP hU0
              go_wp2_with fail
              go_meet
              exact ⟨rfl, hA⟩
            · obtain rfl : t = false := by rw [HT2.out]; simp [hx]
              have r1 : (gf.cl == gj.cl) = false := by simpa using hx
              clear hx
              have hU0 := bup hA
              have HUP := Lib.hid (bup hA)
              refine wp_region_up wr.heap.size (by kernel_rfl) (by kernel_rfl) ?_
              repeat (go_big_quiet_step (fail))
              refine wpQuiet_nil (up_all fun w5 hb2 => ?_)
              have hA := bgo hA hb2
              clear hb2 HUP hU0
              go_wp2_with fail
              go_meet
              exact ⟨rfl, hA⟩
        obtain ⟨rfl, hA⟩ := hcut
        rcases t with _ | _
        rotate_left
        · obtain ⟨hf1, hf2⟩ := mgT_go HTT.out.symm
          have s1 : IntKind.i64.wrap ((f : Int) + 1) = ((f + 1 : Nat) : Int) := by rw [IntKind.wrap_i64]; have := HGL.out; omega
          go_wp2_with fail
          go_roundw
          case rel => exact ⟨f + 1, rfl, by omega, by have := HGL.out; omega, by rw [HGL.out] at hf2; rw [← hf2]; exact HFR2.out, hA⟩
          case measure => have := HGL.out; simp [intOf] <;> omega
        · obtain rfl : t0 = f := by rw [← HFR2.out, ← HGL.out]; exact mgT_stop HTT.out.symm
          have HO5 := Lib.hid (HO4.out.below hA (Nat.le_refl _))
          have hB5 := HB4.out.trans (hA.mono (by have := HB4.out.size; omega))
          clear hA
          go_wp2_with fail
          go_loopw [9] (fun v wr => ∃ j : Nat, v = .int .i64 (j : Int) ∧ f0 ≤ j ∧ j ≤ t0 ∧ Hid (GRow wr w.heap.size (some ⟨b7, 0, none⟩) n c2 (stage gs f0 j cl)) ∧ Below w.heap.size w wr) (fun v _ => t0 - (intOf v).toNat)
          case atStart => exact ⟨f0, rfl, Nat.le_refl _, by omega, (show GRow _ _ _ _ _ (stage gs f0 f0 cl) by rw [stage_start]; exact HO5.out), hB5⟩
          case round =>
            clear hB5
            obtain ⟨j, rfl, hj1, hj2, HOJ, hA9⟩ := hrel
            by_cases hlj : j < t0
            · have hjo : j < gs.length := by rw [HGL.out]; omega
              have hjn : j < n := by omega
              have q0 : decide ((j : Int) < (t0 : Int)) = true := by simp; omega
              obtain ⟨b9, g9, e9, hb91, _, hg9, hc9, hf9⟩ := HOJ.out.at_ hjn
              cases e9
              have hgo : g9 = gs[j] := by
                rw [stage_at hj1 hjo, List.getElem?_append_right (by rw [stage_prefix hj1 hjo]; exact Nat.le_refl _), stage_prefix hj1 hjo, Nat.sub_self] at hg9
                rw [List.getElem?_cons_zero] at hg9
                exact (Option.some.inj hg9).symm
              have hput := GRow.put (k := j) (b := b7) (by rw [← stage_at hj1 hjo]; exact HOJ.out) (stage_prefix hj1 hjo) cl
              rw [stage_next hj1 hjo] at hput
              have HPUT := Lib.hid hput
              have hA10 := hA9.setCell (p := ⟨b7, j * 10 + 1, none⟩) hb91 (.int .i64 cl)
              clear hput hg9 hgo
              go_wp2_with fail
              go_roundw
              case rel => exact ⟨j + 1, by go_num, by omega, by omega, HPUT, hA10⟩
              case measure => simp [intOf] <;> omega
            · obtain rfl : j = t0 := by omega
              have hz9 : ¬ j < j := Nat.lt_irrefl _
              go_wp2_with fail
              go_ret
              have hlen : (mergeB gs p e0).length = n := by rw [HRES.out, stage_length hj1 (by rw [HGL.out]; omega)]; exact HGL.out
              exact ⟨_, _, by rw [hlen]; rfl, by rw [hlen, HRES.out]; exact HOJ.out, hA9⟩

end Go.Proofs.Ytngdolmmaiogiaa

/- What liga.Apply does, plainly; append of glyphs as a step of a region that draws. No condition. Printed by wip/tools. -/
namespace Go.Proofs.Ytngdolmmaiogiaa
open Go.RowKit

/-- the greatest Lig -/
def mxL : Int → List Gl → Int
  | m, [] => m
  | m, g :: r => mxL (max m g.li) r
theorem mxL_step {m : Int} {gs : List Gl} {k : Nat} {g : Gl} (h : gs[k]? = some g) : mxL m (gs.drop k) = mxL (max m g.li) (gs.drop (k + 1)) := by
  rw [drop_of_get h]; rfl
/-- a glyph that is a part of a ligature; a ligature -/
def setlc (num : Int) (part : Nat) (g : Gl) : Gl := ⟨g.id, g.cl, g.ad, g.dx, g.dy, g.tw, g.hg, num, (part : Int), g.ma⟩
def ligG (id num : Int) (g : Gl) : Gl := ⟨id, g.cl, 0, 0, 0, -1, -1, num, 0, g.ma⟩
/-- the glyphs that stand between a ligature's parts -/
def lgL (ps : List Nat) (num : Int) (m : List Gl) : Nat → Nat → Nat → List Gl
  | 0, _, _ => []
  | k + 1, i, part => if part + 1 < ps.length ∧ ps.getD (part + 1) 0 = i then lgL ps num m k (i + 1) (part + 1) else setlc num part (m.getD i zGl) :: lgL ps num m k (i + 1) part
theorem lgL_skip {ps : List Nat} {num : Int} {m : List Gl} {e i part : Nat} (hi : i < e) (h : part + 1 < ps.length ∧ ps.getD (part + 1) 0 = i) : lgL ps num m (e - i) i part = lgL ps num m (e - (i + 1)) (i + 1) (part + 1) := by
  obtain ⟨k, hk⟩ : ∃ k, e - i = k + 1 := ⟨e - i - 1, by omega⟩
  rw [hk, show e - (i + 1) = k by omega]
  show (if part + 1 < ps.length ∧ ps.getD (part + 1) 0 = i then _ else _) = _
  rw [if_pos h]
theorem lgL_put {ps : List Nat} {num : Int} {m : List Gl} {e i part : Nat} {g : Gl} (hi : i < e) (h : ¬ (part + 1 < ps.length ∧ ps.getD (part + 1) 0 = i)) (hg : m[i]? = some g) : lgL ps num m (e - i) i part = setlc num part g :: lgL ps num m (e - (i + 1)) (i + 1) part := by
  obtain ⟨k, hk⟩ : ∃ k, e - i = k + 1 := ⟨e - i - 1, by omega⟩
  rw [hk, show e - (i + 1) = k by omega]
  show (if part + 1 < ps.length ∧ ps.getD (part + 1) 0 = i then _ else _) = _
  rw [if_neg h, List.getD_eq_getElem?_getD, hg]
  rfl
theorem lgL_end {ps : List Nat} {num : Int} {m : List Gl} {e part : Nat} : lgL ps num m (e - e) e part = [] := by rw [Nat.sub_self]; rfl
theorem lgL_len {ps : List Nat} {num : Int} {m : List Gl} : ∀ (k i part : Nat), (lgL ps num m k i part).length ≤ k
  | 0, _, _ => Nat.le_refl _
  | k + 1, i, part => by
    unfold lgL
    split
    · have := lgL_len (ps := ps) (num := num) (m := m) k (i + 1) (part + 1); omega
    · have := lgL_len (ps := ps) (num := num) (m := m) k (i + 1) part; simp; omega
/-- where a ligature's last part stands -/
def lastN (ps : List Nat) : Nat := ps.getD (ps.length - 1) 0
def ligOut (gs : List Gl) (p : Nat) (x : PG) (ps : List Nat) : List Gl :=
  (mergeB gs p (lastN ps + 1)).take p ++ (ligG x.2 (IntKind.i64.wrap (mxL 0 gs + 1)) ((mergeB gs p (lastN ps + 1)).getD p zGl) :: lgL ps (IntKind.i64.wrap (mxL 0 gs + 1)) (mergeB gs p (lastN ps + 1)) (lastN ps + 1 - (p + 1)) (p + 1) 0)
/-- what liga.Apply does -/
def ligaB (P : PFt) (l : Lk) (su : List PSu) (gs : List Gl) (p : Nat) : Option (List Gl × Nat) :=
  match finB P l su gs p with
  | none => none
  | some (x, ps) => some (ligOut gs p x ps ++ (mergeB gs p (lastN ps + 1)).drop (lastN ps + 1), (ligOut gs p x ps).length)
/-- What Apply leaves. -/
def RetAp (w : World) : Option (List Gl × Nat) → Ending → World → Prop
  | none, e, w' => e = .returned (.tuple #[.slice none 0 0, .int .i64 0, .bool false]) ∧ Below w.heap.size w w'
  | some (gs, k), e, w' => ∃ A c, e = .returned (.tuple #[.slice A gs.length c, .int .i64 (k : Int), .bool true]) ∧ GlsR w' w'.heap.size A gs.length c gs ∧ Below w.heap.size w w'
section
variable {P : Program} (w : World)
theorem step_append_gls {ops : Array Oper} {o : Oper} {a : Act} {K : Act → World → Prop} {Q : Exit → Act → World → Prop} {E : Prop} (hgd : o.guard = none) (s x : Operand) (t : TypeId)
    (ho : o.op = .call { callee := .builtin .append, args := #[s, x], argTypes := #[t, t] })
    (base : Nat) (z : Value) (hts : P.underlying t = some (.slice 38)) (hi : (P.info? 38).map (fun i => (i.zero, i.size, i.bytes)) = some (some z, 10, 80)) (hzs : z.cells.size = 10)
    (A : Option Addr) (n c : Nat) (gs : List Gl) (hs : a.eval s = .slice A n c) (hown : GRow w base A n c gs)
    (B : Nat) (A2 : Addr) (m c2 : Nat) (ys : List Gl) (hx : a.eval x = .slice (some A2) m c2) (hr : GlsR w B (some A2) m c2 ys) (hm : 0 < m)
    (hbytes : n + m ≤ 1000000) (hbase : base ≤ w.heap.size)
    (h : ∀ A' c' w', GRow w' base A' (n + m) c' (gs ++ ys) → w.grownBy w' (Value.slice A n c).ownBlock → ((Value.slice A' (n + m) c').ownBlock = (Value.slice A n c).ownBlock ∨ (Value.slice A' (n + m) c').ownBlock = some w.heap.size) → K (a.put o.dst (.slice A' (n + m) c')) w') :
    if Region.wanted o (yielded ops a.tmps) = true then Oper.wp P o a w K Q else E := by
  have hw : Region.wanted o (yielded ops a.tmps) = true := by simp [Region.wanted, hgd]
  rw [if_pos hw]
  obtain ⟨i, hi0, hz, hsz, hby⟩ := info_parts hi
  have run : ∃ A' c' w', (Builtin.append_ #[t, t] o.type #[.slice A n c, .slice (some A2) m c2]).run P w = .ok (.slice A' (n + m) c') w' ∧ GRow w' base A' (n + m) c' (gs ++ ys) ∧ w.grownBy w' (Value.slice A n c).ownBlock ∧
      ((Value.slice A' (n + m) c').ownBlock = (Value.slice A n c).ownBlock ∨ (Value.slice A' (n + m) c').ownBlock = some w.heap.size) := by
    obtain ⟨b, o', e2, hbB, hc⟩ := hr.2.2.2.2 (by omega)
    cases e2
    obtain ⟨v', w', hrun, h2, h3, _, h5⟩ := run_append_own_at (P := P) w base t o.type 38 i z 10 80 hts hi0 hz hsz hby hzs (by omega) _ n (glCells gs) hown.2 ⟨b, o', none⟩ m c2 (glCells ys) (by rw [glCells_length, hr.1]) (fun j u hu => by
      have : (⟨b, o', none⟩ : Addr).add j = ⟨b, o' + j, none⟩ := by unfold Addr.add; split <;> simp_all
      rw [this]; exact hc j u hu) glCells_one (by unfold maxLen; omega) (by omega) hbase
    have hform : ∃ A' c', v' = .slice A' (n + m) c' := by
      rcases h2.2 with ⟨rfl, h⟩ | ⟨g, cap, cur, rfl, _⟩
      · omega
      · exact ⟨_, _, rfl⟩
    obtain ⟨A', c', rfl⟩ := hform
    exact ⟨A', c', w', hrun, ⟨by rw [List.length_append, hown.1, hr.1], by rw [glCells_append]; exact h2⟩, h3, h5⟩
  obtain ⟨A', c', w', hrun, h2, h3, h5⟩ := run
  unfold Oper.wp execOp
  simp only [ho, resolve, invoke, builtin, Sem.run_bind, Sem.run_pure, Result.andThen_ok, List.map_toArray, List.map_cons, List.map_nil, hs, hx, hrun]
  exact h A' c' w' h2 h3 h5
end
theorem mergeB_length {gs : List Gl} {p e : Nat} (h1 : p ≤ e) (h2 : e ≤ gs.length) : (mergeB gs p e).length = gs.length := by
  unfold mergeB
  have a1 := mgF_le gs p
  have a2 := mgT_ge gs (gs.length - e) e
  have a3 := mgT_le gs (gs.length - e) e
  exact stage_length (by omega) (by omega)
theorem finB_some {P : PFt} {l : Lk} {su : List PSu} {gs : List Gl} {p : Nat} {x : PG} {ps : List Nat} (h : finB P l su gs p = some (x, ps)) : ∃ q, ps = p :: q ∧ ∀ z ∈ q, z < gs.length := by
  unfold finB at h
  split at h
  · rename_i g hg
    generalize partB su g.id = ls at h
    induction ls with
    | nil => cases h
    | cons y r ih =>
      unfold findL at h
      split at h
      · rename_i q hq
        cases h
        exact ⟨q, rfl, stB_lt hq⟩
      · exact ih h
  · cases h

end Go.Proofs.Ytngdolmmaiogiaa
