/- Joined: SubIn IdlP. -/
import Derived.Test.YtngdolmmaiogiaaJ02
import Derived.Test.YtngdolmmaiogiaaJ05
import Derived.WideShapes
import Derived.ChangeShapes
import Derived.OpenShut
import Derived.SizedLaws
import Derived.Test.YtngdolmmaiogiaaJ22

/- The arguments of the laws on substitution, as values: a font, steps, a buffer of glyphs. Condition: they read as data within the reach. -/
namespace Go.Proofs.Ytngdolmmaiogiaa
open Go.RowKit Go.ChangeShapes Go.WideShapes
set_option maxRecDepth 100000

theorem fitSteps : shOk Try.prog 12 29 (.sl shNest) = true := by kernel_rfl
section
variable {H : Type} {enc : TypeId × Value → H} {w : World} {base b0 : Nat} {spare : Nat → Bool} {held : Bool} {r : Reach} {v : Value} {d : DataW H} {p : List MemPlace}
theorem weigh {ts : List TypeId} {ds : List (DataW H)} {P : Program} (h : (DataW.weightsEach P ts ds).all (· ≤ reachBytes) = true) {j : Nat} {t : TypeId} (ht : ts[j]? = some t) (hd : ds[j]? = some d) : ∀ m ∈ d.weights P t, m ≤ 140737488355328 := fun m hm => by
  have h1 := List.all_eq_true.1 h m (DataW.weights_mem_each ht hd m hm)
  have h2 : m ≤ reachBytes := by simpa using h1
  unfold reachBytes at h2
  omega
theorem font_in (hv : Value.okWide Try.prog w r b0 28 v) (hw : ∀ m ∈ d.weights Try.prog 28, m ≤ 140737488355328) (h : DataW.Trod enc Try.prog w base spare held 28 v d p) :
    ∃ F : Fnt, v = .agg #[.int .i64 F.em, .slice F.GA F.gn F.gc, .slice F.MA F.mn F.mc, .slice F.LA F.ln F.lc, .slice F.FA F.fn F.fc, .slice F.SA F.sn F.sc] ∧ FntOk w w.heap.size F := by
  obtain ⟨cs, rfl, hsz⟩ := okWide_struct Try.underlying28 hv
  obtain ⟨fuel, hf⟩ := h
  obtain ⟨em, AG, nG, cG, AM, nM, cM, AL, nL, cL, AF, nF, cF, AS, nS, cS, e, _, h1, h2, h3, h4, h5⟩ := (shd_of_trod 12 fuel _ _ _ _ fitFont hw hf).unFont
  refine ⟨⟨em, AG, nG, cG, AM, nM, cM, AL, nL, cL, AF, nF, cF, AS, nS, cS⟩, ?_, ⟨h1, h2, h3, h4, h5⟩⟩
  have e' : cs.toList = _ := e
  have : cs = (cs.toList).toArray := by simp
  rw [this, e']
theorem glyphs_in (hv : Value.okWide Try.prog w r b0 30 v) (hw : ∀ m ∈ d.weights Try.prog 30, m ≤ 140737488355328) (h : DataW.Trod enc Try.prog w base spare held 30 v d p) :
    ∃ (A : Option Addr) (n c : Nat) (gs : List Gl), v = .slice A n c ∧ GlsR w w.heap.size A n c gs := by
  obtain ⟨A, n, c, rfl⟩ := okWide_slice Try.underlying30 hv
  obtain ⟨fuel, hf⟩ := h
  have h1 := shd_of_trod 12 fuel _ _ _ _ fitGlyphs hw hf
  obtain ⟨A', n', c', e, h2⟩ := h1.slice
  have e' : [Value.slice A n c] = _ := e
  cases e'
  obtain ⟨gs, hg⟩ := h2.gls
  exact ⟨A, n, c, gs, rfl, hg⟩
theorem steps_in (hv : Value.okWide Try.prog w r b0 29 v) (hw : ∀ m ∈ d.weights Try.prog 29, m ≤ 140737488355328) (h : DataW.Trod enc Try.prog w base spare held 29 v d p) :
    ∃ (A : Option Addr) (n c : Nat) (xs : List (Int × Int)), v = .slice A n c ∧ SlR w w.heap.size 2 NestR A n c xs := by
  obtain ⟨A, n, c, rfl⟩ := okWide_slice Try.underlying29 hv
  obtain ⟨fuel, hf⟩ := h
  have h1 := shd_of_trod 12 fuel _ _ _ _ fitSteps hw hf
  obtain ⟨A', n', c', e, h2⟩ := h1.slice
  have e' : [Value.slice A n c] = _ := e
  cases e'
  obtain ⟨xs, hg⟩ := ShSl.nests h2
  exact ⟨A, n, c, xs, rfl, hg⟩
end

end Go.Proofs.Ytngdolmmaiogiaa

/- Steps that no glyph's mask meets; how much is left does not matter as long as something is. Plainly. No condition. -/
namespace Go.Proofs.Ytngdolmmaiogiaa
open Go.RowKit

theorem bv_wrap (n : Int) : BitVec.ofInt 64 (IntKind.i64.wrap n) = BitVec.ofInt 64 n := by
  apply BitVec.eq_of_toNat_eq
  rw [BitVec.toNat_ofInt, BitVec.toNat_ofInt, IntKind.wrap_i64]
  congr 1
  omega
theorem bv_nat (a : BitVec 64) : BitVec.ofInt 64 (a.toNat : Int) = a := by
  apply BitVec.eq_of_toNat_eq
  rw [BitVec.toNat_ofInt]
  have := a.isLt
  omega
theorem bv_or (x y : Int) : BitVec.ofInt 64 (bits BinOp.or IntKind.i64 x y) = BitVec.ofInt 64 x ||| BitVec.ofInt 64 y := by
  show BitVec.ofInt 64 (IntKind.i64.wrap ((BitVec.ofInt 64 x ||| BitVec.ofInt 64 y).toNat : Int)) = _
  rw [bv_wrap, bv_nat]
theorem bv_andNot (x y : Int) : BitVec.ofInt 64 (bits BinOp.andNot IntKind.i64 x y) = BitVec.ofInt 64 x &&& ~~~ BitVec.ofInt 64 y := by
  show BitVec.ofInt 64 (IntKind.i64.wrap ((BitVec.ofInt 64 x &&& ~~~ BitVec.ofInt 64 y).toNat : Int)) = _
  rw [bv_wrap, bv_nat]
theorem bv_and_zero {x y : Int} (h : BitVec.ofInt 64 x &&& BitVec.ofInt 64 y = 0#64) : bits BinOp.and IntKind.i64 x y = 0 := by
  show IntKind.i64.wrap ((BitVec.ofInt 64 x &&& BitVec.ofInt 64 y).toNat : Int) = 0
  rw [h]; rfl
theorem bv_sub {x a b : BitVec 64} (h : x &&& ~~~a = 0#64) : x &&& ~~~(a ||| b) = 0#64 := by
  ext i hi
  have h1 := congrArg (fun z => z.getLsbD i) h
  simp [hi] at h1 ⊢
  cases hx : x[i] <;> cases ha : a[i] <;> simp_all
theorem bv_sub2 {x a b : BitVec 64} (h : x &&& ~~~b = 0#64) : x &&& ~~~(a ||| b) = 0#64 := by
  rw [BitVec.or_comm]; exact bv_sub h
theorem bv_self (x : BitVec 64) : x &&& ~~~x = 0#64 := by
  ext i hi
  simp
theorem bv_meet {x m a : BitVec 64} (h : x &&& ~~~a = 0#64) : x &&& (m &&& ~~~a) = 0#64 := by
  ext i hi
  have h1 := congrArg (fun z => z.getLsbD i) h
  simp [hi] at h1 ⊢
  cases hx : x[i] <;> cases ha : a[i] <;> simp_all
/-- all masks lie within met -/
def Met (met : Int) (gs : List Gl) : Prop := ∀ g ∈ gs, BitVec.ofInt 64 g.ma &&& ~~~ BitVec.ofInt 64 met = 0#64
theorem Met.next {met : Int} {gs : List Gl} {k : Nat} {g : Gl} (h : Met met (gs.take k)) (hg : gs[k]? = some g) : Met (bits BinOp.or IntKind.i64 met g.ma) (gs.take (k + 1)) := fun x hx => by
  rw [bv_or]
  rw [List.take_add_one, hg, Option.toList_some, List.mem_append, List.mem_singleton] at hx
  rcases hx with hx | rfl
  · exact bv_sub (h x hx)
  · exact bv_sub2 (bv_self _)
theorem Met.miss {met mk : Int} {gs : List Gl} {g : Gl} (h : Met met gs) (hg : g ∈ gs) : hitB g (bits BinOp.andNot IntKind.i64 mk met) = false := by
  unfold hitB
  rw [bv_and_zero (by rw [bv_andNot]; exact bv_meet (h g hg))]
  rfl
section
variable {P : PFt} {Ls : List LkS}
theorem fwdB_idle {x : Int × Int} {gs : List Gl} {L : Nat} (h : ∀ g ∈ gs, hitB g x.2 = false) : ∀ (n i : Nat), gs.length - i ≤ n → fwdB P Ls x i gs L = (gs, L)
  | 0, i, hn => fwdB_end (by omega)
  | n + 1, i, hn => by
    cases hg : gs[i]? with
    | none => exact fwdB_end (by rcases Nat.lt_or_ge i gs.length with h1 | h1; (· rw [List.getElem?_eq_getElem h1] at hg; cases hg); exact h1)
    | some g =>
      have hl := lt_of_some' hg
      rw [fwdB_miss hg (h g (List.mem_of_getElem? hg))]
      exact fwdB_idle h n (i + 1) (by omega)
theorem bwdB_idle {x : Int × Int} {gs : List Gl} {L : Nat} (h : ∀ g ∈ gs, hitB g x.2 = false) : ∀ (i : Nat), bwdB P Ls x i gs L = (gs, L)
  | 0 => rfl
  | i + 1 => by
    cases hg : gs[i]? with
    | none => rw [bwdB, hg]
    | some g => rw [bwdB_miss hg (h g (List.mem_of_getElem? hg))]; exact bwdB_idle h i
theorem allB_idle {gs : List Gl} {L : Nat} : ∀ (xs : List (Int × Int)), (∀ x ∈ xs, ∀ g ∈ gs, hitB g x.2 = false) → allB P Ls xs gs L = (gs, L)
  | [], _ => rfl
  | x :: r, h => by
    have h1 : lookB P Ls gs L x = (gs, L) := by
      have hx := h x List.mem_cons_self
      unfold lookB
      split
      · split
        · rfl
        · split
          · exact bwdB_idle hx _
          · exact fwdB_idle hx _ 0 (Nat.le_refl _)
      · rfl
    rw [allB_cons, h1]
    exact allB_idle r fun y hy => h y (List.mem_cons_of_mem _ hy)
theorem nest1_left {do_ : Nat → List Gl → Int → Nat → Option (List Gl) × Nat} (h2 : ∀ L gs lk p r L', do_ L gs lk p = (r, L') → L' ≤ L) (st : NSt) (n : Int × Int) : (nest1 do_ st n).L ≤ st.L := by
  unfold nest1
  split
  · split
    · generalize hr : do_ st.L st.l n.2 (st.pl.getD n.1.toNat 0).toNat = q
      rcases q with ⟨_ | now, L'⟩
      · exact h2 _ _ _ _ _ _ hr
      · exact h2 _ _ _ _ _ _ hr
    · exact Nat.le_refl _
  · exact Nat.le_refl _
theorem foldN_left {do_ : Nat → List Gl → Int → Nat → Option (List Gl) × Nat} (h2 : ∀ L gs lk p r L', do_ L gs lk p = (r, L') → L' ≤ L) : ∀ (ns : List (Int × Int)) (st : NSt), (ns.foldl (nest1 do_) st).L ≤ st.L
  | [], _ => Nat.le_refl _
  | a :: r, st => Nat.le_trans (foldN_left h2 r _) (nest1_left h2 st a)
theorem foldN_down {do_ : Nat → List Gl → Int → Nat → Option (List Gl) × Nat} {d : Nat} (h2 : ∀ L gs lk p r L', do_ L gs lk p = (r, L') → L' ≤ L) (h3 : ∀ L gs lk p, d < (do_ L gs lk p).2 → do_ (L - d) gs lk p = ((do_ L gs lk p).1, (do_ L gs lk p).2 - d)) :
    ∀ (ns : List (Int × Int)) (st : NSt), d < (ns.foldl (nest1 do_) st).L → ns.foldl (nest1 do_) ⟨st.l, st.pl, st.L - d⟩ = ⟨(ns.foldl (nest1 do_) st).l, (ns.foldl (nest1 do_) st).pl, (ns.foldl (nest1 do_) st).L - d⟩
  | [], _, _ => rfl
  | a :: r, st, h => by
    have h4 := foldN_left h2 r (nest1 do_ st a)
    have h5 : d < (nest1 do_ st a).L := Nat.lt_of_lt_of_le h h4
    have h6 : nest1 do_ ⟨st.l, st.pl, st.L - d⟩ a = ⟨(nest1 do_ st a).l, (nest1 do_ st a).pl, (nest1 do_ st a).L - d⟩ := by
      unfold nest1 at h5 ⊢
      simp only
      split
      · rename_i hc
        rw [if_pos hc] at h5
        split
        · rename_i hc2
          rw [if_pos hc2] at h5
          have h7 : d < (do_ st.L st.l a.2 (st.pl.getD a.1.toNat 0).toNat).2 := by
            revert h5
            generalize do_ st.L st.l a.2 (st.pl.getD a.1.toNat 0).toNat = q
            rcases q with ⟨_ | now, L'⟩ <;> exact fun h => h
          rw [h3 _ _ _ _ h7]
          generalize do_ st.L st.l a.2 (st.pl.getD a.1.toNat 0).toNat = q
          rcases q with ⟨_ | now, L'⟩ <;> rfl
        · rfl
      · rfl
    show r.foldl (nest1 do_) (nest1 do_ ⟨st.l, st.pl, st.L - d⟩ a) = _
    rw [h6]
    exact foldN_down h2 h3 r (nest1 do_ st a) h
theorem onceB_down {d : Nat} : ∀ (k L : Nat) (gs : List Gl) (nn at_ : Int), d < (onceB P Ls k L gs nn at_).2 → onceB P Ls k (L - d) gs nn at_ = ((onceB P Ls k L gs nn at_).1, (onceB P Ls k L gs nn at_).2 - d)
  | 0, _, _, _, _, _ => rfl
  | k + 1, L, gs, nn, at_, h => by
    have hle := (onceB_ok (P := P) (Ls := Ls) (k + 1) L gs nn at_).2
    by_cases hc : 0 ≤ nn ∧ nn < (Ls.length : Int) ∧ 0 ≤ at_ ∧ at_ < (gs.length : Int) ∧ L ≠ 0 ∧ gs.length ≤ 16384
    · obtain ⟨i, rfl⟩ : ∃ i : Nat, nn = (i : Int) := ⟨nn.toNat, by omega⟩
      obtain ⟨p, rfl⟩ : ∃ p : Nat, at_ = (p : Int) := ⟨at_.toNat, by omega⟩
      obtain ⟨⟨l, su⟩, hl⟩ : ∃ x, Ls[i]? = some x := ⟨_, List.getElem?_eq_getElem (by omega)⟩
      obtain ⟨g, hg⟩ : ∃ x, gs[p]? = some x := ⟨_, List.getElem?_eq_getElem (by omega)⟩
      have hLd : L - d ≠ 0 := by omega
      rw [onceB_in hl hg hc.2.2.2.2.1 hc.2.2.2.2.2] at h ⊢
      rw [onceB_in hl hg hLd hc.2.2.2.2.2]
      split
      · rfl
      · rename_i h1
        rw [if_neg h1] at h
        split
        · rename_i h2
          rw [if_pos h2] at h
          split
          · rfl
          · rename_i y h3
            rw [h3] at h
            simp only at h
            unfold ctxB at h ⊢
            rw [h3] at h ⊢
            obtain ⟨i', ps⟩ := y
            simp only at h ⊢
            cases h4 : su[i']? with
            | none => rw [h4] at h; simp only at h ⊢; rw [show L - d - 1 = L - 1 - d by omega]
            | some s =>
              rw [h4] at h
              simp only at h ⊢
              have h5 := foldN_down (do_ := doB P Ls k) (d := d) doB_left (fun L gs lk p h => by
                unfold doB at h ⊢
                rw [onceB_down k L gs lk (p : Int) h]) s.ne ⟨gs, natI ps, L - 1⟩ h
              simp only at h5
              rw [show L - d - 1 = L - 1 - d by omega, h5]
        · rename_i h2
          rw [if_neg h2] at h
          split
          · rename_i r' h3
            rw [show L - d - 1 = L - 1 - d by omega]
          · rfl
    · have hc2 : ¬ (0 ≤ nn ∧ nn < (Ls.length : Int) ∧ 0 ≤ at_ ∧ at_ < (gs.length : Int) ∧ L - d ≠ 0 ∧ gs.length ≤ 16384) := by
        rw [onceB_out hc] at h
        simp only at h
        exact fun h1 => hc ⟨h1.1, h1.2.1, h1.2.2.1, h1.2.2.2.1, by omega, h1.2.2.2.2.2⟩
      rw [onceB_out hc, onceB_out hc2]
theorem onceB_downE {d k L L' : Nat} {gs : List Gl} {nn at_ : Int} {r : Option (List Gl × Int)} (h : onceB P Ls k L gs nn at_ = (r, L')) (hd : d < L') : onceB P Ls k (L - d) gs nn at_ = (r, L' - d) := by
  have h1 := onceB_down (P := P) (Ls := Ls) (d := d) k L gs nn at_ (by rw [h]; exact hd)
  rw [h] at h1; exact h1
theorem fwdB_left {x : Int × Int} (i : Nat) (gs : List Gl) (L : Nat) : (fwdB P Ls x i gs L).2 ≤ L :=
  fwdB_inv (P := P) (Ls := Ls) (x := x) (I := fun _ l => l ≤ L)
    (fun gs L i g r L' h _ _ ho => by
      have h1 := (onceB_ok (P := P) (Ls := Ls) 9 L gs x.1 (i : Int)).2
      rw [ho] at h1
      exact Nat.le_trans h1 h)
    (fun gs L i g L' h _ _ ho => by
      have h1 := (onceB_ok (P := P) (Ls := Ls) 9 L gs x.1 (i : Int)).2
      rw [ho] at h1
      exact Nat.le_trans h1 h) i gs L (Nat.le_refl _)
theorem bwdB_left {x : Int × Int} (i : Nat) (gs : List Gl) (L : Nat) : (bwdB P Ls x i gs L).2 ≤ L :=
  bwdB_inv (P := P) (Ls := Ls) (x := x) (I := fun _ l => l ≤ L)
    (fun gs L i g r L' h _ _ ho => by
      have h1 := (onceB_ok (P := P) (Ls := Ls) 9 L gs x.1 (i : Int)).2
      rw [ho] at h1
      exact Nat.le_trans h1 h)
    (fun gs L i g L' h _ _ ho => by
      have h1 := (onceB_ok (P := P) (Ls := Ls) 9 L gs x.1 (i : Int)).2
      rw [ho] at h1
      exact Nat.le_trans h1 h) i gs L (Nat.le_refl _)
theorem fwdB_down {x : Int × Int} {d : Nat} (i : Nat) (gs : List Gl) (L : Nat) (h : d < (fwdB P Ls x i gs L).2) : fwdB P Ls x i gs (L - d) = ((fwdB P Ls x i gs L).1, (fwdB P Ls x i gs L).2 - d) := by
  fun_induction fwdB P Ls x i gs L with
  | case1 i gs L hg => exact fwdB_end (by rcases Nat.lt_or_ge i gs.length with h1 | h1; (· rw [List.getElem?_eq_getElem h1] at hg; cases hg); exact h1)
  | case2 i gs L g hg hh r L' ho ih =>
    have h1 := fwdB_left (P := P) (Ls := Ls) (x := x) r.2.toNat r.1 L'
    rw [fwdB_some hg hh (onceB_downE ho (by omega))]
    exact ih h
  | case3 i gs L g hg hh L' ho ih =>
    have h1 := fwdB_left (P := P) (Ls := Ls) (x := x) (i + 1) gs L'
    rw [fwdB_none hg hh (onceB_downE ho (by omega))]
    exact ih h
  | case4 i gs L g hg hh ih =>
    rw [fwdB_miss hg (by simpa using hh)]
    exact ih h
theorem bwdB_down {x : Int × Int} {d : Nat} : ∀ (i : Nat) (gs : List Gl) (L : Nat), d < (bwdB P Ls x i gs L).2 → bwdB P Ls x i gs (L - d) = ((bwdB P Ls x i gs L).1, (bwdB P Ls x i gs L).2 - d)
  | 0, _, _, _ => rfl
  | i + 1, gs, L, h => by
    cases hg : gs[i]? with
    | none => rw [bwdB, bwdB, hg]
    | some g =>
      cases hh : hitB g x.2 with
      | false =>
        rw [bwdB_miss hg hh] at h ⊢
        rw [bwdB_miss hg hh]
        exact bwdB_down i gs L h
      | true =>
        rcases ho : onceB P Ls 9 L gs x.1 (i : Int) with ⟨_ | r, L'⟩
        · rw [bwdB_none hg hh ho] at h ⊢
          have h1 := bwdB_left (P := P) (Ls := Ls) (x := x) i gs L'
          rw [bwdB_none hg hh (onceB_downE ho (by omega))]
          exact bwdB_down i gs L' h
        · rw [bwdB_some hg hh ho] at h ⊢
          have h1 := bwdB_left (P := P) (Ls := Ls) (x := x) i r.1 L'
          rw [bwdB_some hg hh (onceB_downE ho (by omega))]
          exact bwdB_down i r.1 L' h
theorem lookB_left (gs : List Gl) (L : Nat) (x : Int × Int) : (lookB P Ls gs L x).2 ≤ L := by
  unfold lookB
  split
  · split
    · exact Nat.le_refl _
    · split
      · exact bwdB_left _ _ _
      · exact fwdB_left _ _ _
  · exact Nat.le_refl _
theorem lookB_down {d : Nat} {gs : List Gl} {L : Nat} {x : Int × Int} (h : d < (lookB P Ls gs L x).2) : lookB P Ls gs (L - d) x = ((lookB P Ls gs L x).1, (lookB P Ls gs L x).2 - d) := by
  unfold lookB at h ⊢
  split
  · rename_i hx
    rw [if_pos hx] at h
    split
    · rfl
    · rename_i k hk
      rw [hk] at h
      simp only at h
      split
      · rename_i h5
        rw [if_pos h5] at h
        exact bwdB_down _ _ _ h
      · rename_i h5
        rw [if_neg h5] at h
        exact fwdB_down _ _ _ h
  · rfl
theorem allB_left : ∀ (xs : List (Int × Int)) (gs : List Gl) (L : Nat), (allB P Ls xs gs L).2 ≤ L
  | [], _, _ => Nat.le_refl _
  | x :: r, gs, L => Nat.le_trans (allB_left r _ _) (lookB_left gs L x)
theorem allB_down {d : Nat} : ∀ (xs : List (Int × Int)) (gs : List Gl) (L : Nat), d < (allB P Ls xs gs L).2 → allB P Ls xs gs (L - d) = ((allB P Ls xs gs L).1, (allB P Ls xs gs L).2 - d)
  | [], _, _, _ => rfl
  | x :: r, gs, L, h => by
    rw [allB_cons] at h ⊢
    rw [allB_cons]
    have h1 := allB_left (P := P) (Ls := Ls) r (lookB P Ls gs L x).1 (lookB P Ls gs L x).2
    rw [lookB_down (d := d) (by omega)]
    exact allB_down r _ _ h
theorem allB_append (xs ys : List (Int × Int)) (gs : List Gl) (L : Nat) : allB P Ls (xs ++ ys) gs L = allB P Ls ys (allB P Ls xs gs L).1 (allB P Ls xs gs L).2 := by
  unfold allB
  rw [List.foldl_append]
/-- two lists of steps, one behind the other -/
theorem allB_two {xs ys : List (Int × Int)} {gs : List Gl} (h : (65536 - (allB P Ls xs gs 65536).2) + (65536 - (allB P Ls ys (allB P Ls xs gs 65536).1 65536).2) < 65536) :
    (allB P Ls (xs ++ ys) gs 65536).1 = (allB P Ls ys (allB P Ls xs gs 65536).1 65536).1 ∧
    65536 - (allB P Ls (xs ++ ys) gs 65536).2 = (65536 - (allB P Ls xs gs 65536).2) + (65536 - (allB P Ls ys (allB P Ls xs gs 65536).1 65536).2) := by
  have h1 := allB_left (P := P) (Ls := Ls) xs gs 65536
  have h2 := allB_left (P := P) (Ls := Ls) ys (allB P Ls xs gs 65536).1 65536
  have h3 := allB_down (P := P) (Ls := Ls) (d := 65536 - (allB P Ls xs gs 65536).2) ys (allB P Ls xs gs 65536).1 65536 (by omega)
  rw [show 65536 - (65536 - (allB P Ls xs gs 65536).2) = (allB P Ls xs gs 65536).2 by omega] at h3
  rw [allB_append, h3]
  exact ⟨rfl, by simp only; omega⟩
end

end Go.Proofs.Ytngdolmmaiogiaa
