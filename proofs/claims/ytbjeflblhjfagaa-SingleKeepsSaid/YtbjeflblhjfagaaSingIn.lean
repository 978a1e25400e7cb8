/- The arguments of the three laws, as values: a font, a buffer of glyphs, two numbers. Condition: they read as data. -/
import Derived.Test.YtbjeflblhjfagaaBuf
import Derived.WideShapes
import Derived.ChangeShapes
import Derived.OpenShut
namespace Go.Proofs.Ytbjeflblhjfagaa
open Go.RowKit Go.ChangeShapes Go.WideShapes
set_option maxRecDepth 100000

section
variable {H : Type} {enc : TypeId × Value → H} {w : World} {base b0 : Nat} {spare : Nat → Bool} {held : Bool} {r : Reach} {v : Value} {d : DataW H} {p : List MemPlace}
theorem font_in (hv : Value.okWide Try.prog w r b0 28 v) (h : DataW.Trod enc Try.prog w base spare held 28 v d p) :
    ∃ F : Fnt, v = .agg #[.int .i64 F.em, .slice F.GA F.gn F.gc, .slice F.MA F.mn F.mc, .slice F.LA F.ln F.lc, .slice F.FA F.fn F.fc, .slice F.SA F.sn F.sc] ∧ FntOk w w.heap.size F := by
  obtain ⟨cs, rfl, hsz⟩ := okWide_struct Try.underlying28 hv
  obtain ⟨fuel, hf⟩ := h
  obtain ⟨em, AG, nG, cG, AM, nM, cM, AL, nL, cL, AF, nF, cF, AS, nS, cS, e, _, h1, h2, h3, h4, h5⟩ := (shd_of_trod 12 fuel _ _ _ _ fitFont hf).unFont
  refine ⟨⟨em, AG, nG, cG, AM, nM, cM, AL, nL, cL, AF, nF, cF, AS, nS, cS⟩, ?_, ⟨h1, h2, h3, h4, h5⟩⟩
  have e' : cs.toList = _ := e
  have : cs = (cs.toList).toArray := by simp
  rw [this, e']
theorem glyphs_in (hv : Value.okWide Try.prog w r b0 42 v) (h : DataW.Trod enc Try.prog w base spare held 42 v d p) :
    ∃ (A : Option Addr) (n c : Nat) (gs : List Gl), v = .slice A n c ∧ GlsR w w.heap.size A n c gs ∧ ShSl w w.heap.size shGlyph A n c := by
  obtain ⟨A, n, c, rfl⟩ := okWide_slice Try.underlying42 hv
  obtain ⟨fuel, hf⟩ := h
  have h1 := shd_of_trod 12 fuel _ _ _ _ fitGlyphs hf
  obtain ⟨A', n', c', e, h2⟩ := h1.slice
  have e' : [Value.slice A n c] = _ := e
  cases e'
  obtain ⟨gs, hg⟩ := h2.gls
  exact ⟨A, n, c, gs, rfl, hg, h2⟩
theorem u8_in (h : DataW.Trod enc Try.prog w base spare held 5 v d p) (hv : Value.okWide Try.prog w r b0 5 v) : ∃ m : Nat, v = .int .u8 (m : Int) ∧ m < 256 := by
  obtain ⟨n, rfl⟩ := okWide_int Try.underlying5 hv
  obtain ⟨fuel, hf⟩ := h
  obtain ⟨n', e, _, hw⟩ := DataW.trod_int Try.underlying5 hf
  have e' : [Value.int .u8 n] = _ := e
  cases e'
  simp [Lit.wf, IntKind.min, IntKind.max, IntKind.signed, IntKind.bits] at hw
  exact ⟨n.toNat, by rw [Int.toNat_of_nonneg (by omega)], by omega⟩
theorem int_in (hv : Value.okWide Try.prog w r b0 3 v) : ∃ m : Int, v = .int .i64 m := by
  obtain ⟨n, rfl⟩ := okWide_int Try.underlying3 hv
  exact ⟨n, rfl⟩
theorem pair_in (hv : Value.okWide Try.prog w r b0 43 v) (h : DataW.Trod enc Try.prog w base spare held 43 v d p) : ∃ n0 n1 : Int, v = .agg #[.int .i64 n0, .int .i64 n1] := by
  simp only [Value.okWide, Try.underlying43] at hv
  obtain ⟨cs, rfl, hsz, _⟩ := hv
  obtain ⟨fuel, hf⟩ := h
  obtain ⟨xs, m, _, _, hl, hxl, hel⟩ := DataW.trod_array Try.underlying43 hf
  have hc1 : Try.prog.cellsOf 3 = 1 := by kernel_rfl
  have hc2 : Try.prog.cellsOf 43 = 2 := by kernel_rfl
  rw [hc2] at hsz
  obtain ⟨c0, c1, rfl⟩ : ∃ c0 c1, cs = #[c0, c1] := by
    obtain ⟨l⟩ := cs
    match l, hsz with
    | [c0, c1], _ => exact ⟨c0, c1, rfl⟩
  have e0 := hel 0 (by omega)
  have e1 := hel 1 (by omega)
  rw [hc1, List.getElem?_eq_getElem (by omega)] at e0 e1
  obtain ⟨n0, h0, _⟩ := DataW.trod_int Try.underlying3 e0
  obtain ⟨n1, h1, _⟩ := DataW.trod_int Try.underlying3 e1
  have h0' : [c0] = [Value.int .i64 n0] := h0
  have h1' : [c1] = [Value.int .i64 n1] := h1
  cases h0'
  cases h1'
  exact ⟨n0, n1, rfl⟩
end
end Go.Proofs.Ytbjeflblhjfagaa
