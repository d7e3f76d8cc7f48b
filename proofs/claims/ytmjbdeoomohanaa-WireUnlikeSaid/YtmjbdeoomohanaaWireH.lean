/- wire: body. -/
import Derived.Test.YtmjbdeoomohanaaWireG
set_option linter.unusedSimpArgs false
set_option linter.unusedVariables false
namespace Go.Proofs.Ytmjbdeoomohanaa.Mine
open Go.RowKit Go.Maps Go.Proofs.YtmjbdeoomohanaaW.PrintWords Go.Proofs.YtmjbdeoomohanaaW.PrintLast Go.Proofs.YtmjbdeoomohanaaW.PrintMore Go.Proofs.Ytmjbdeoomohanaa.PWirePacks Go.Proofs.Ytmjbdeoomohanaa.Turn
variable {lo : Nat}

set_option maxHeartbeats 2000000 in
theorem bodyM_any {w : World} {base b g : Nat} {G : Nat → Prop} {S : St} {m : Msg} (h : Cod w base G b S) (hM : MsgAt lo w g G m) (hg : ¬ G g) (hb : base ≤ g) {N : Nat} (hS : OkT N S) (hN : N ≤ 549755813888) (hn : m.body.length ≤ 549755813888) :
    Calls Try.prog 43 #[.pointer (some ⟨b, 0, none⟩), .pointer (some ⟨g, 0, none⟩)] w fun e w' => EndsM lo w base G b g (thenS (textS S m.body) fun v => { m with body := v }) e w' := by
  have HM := Aside0.mk hM
  obtain ⟨A5, c5, A8, c8, A13, c13, hx, hl1, hl2, hl3, h5, h8, h13⟩ := hM
  have hxl := hx.lt
  have HXF : Aside0 (g < w.heap.size) := ⟨hxl⟩
  have HN := Aside0.mk (text_any h hS hN A8 c8 m.body hl2 hn h8)
  have p : w.cell? ⟨g, 8, none⟩ = some (.slice A8 m.body.length c8) := (hx.cell 8).trans rfl
  clear h hS hx hl1 hl2 hl3 h5 h8 h13
  obtain ⟨x, hx⟩ : ∃ x, textS S m.body = x := ⟨_, rfl⟩
  rw [hx] at HN ⊢
  clear hx
  go_enter Try.func43, Try.ntmps43
  go_wp2_with fail
  refine HN.out.mono ?_
  clear HN p
  cases x with
  | error x =>
    rintro e w2 ⟨G', hG', hT', he⟩
    have he2 : e = .panicked [{ v := .iface 63 (.agg #[.int .i64 x]), recovered := false }] := he
    subst he2
    clear he
    have HG := Aside0.mk hG'
    have HT := Aside0.mk hT'
    clear hG' hT'
    go_wp2_with fail
    exact ⟨rfl, EndsM.wrong (HM.out.blk14 hg) HG.out HT.out⟩
  | ok x =>
    obtain ⟨r, S'⟩ := x
    rintro e w2 ⟨G', hG', hT', ⟨A3, c3, rfl, hc3, hF3⟩, hC2⟩
    have hgG : ¬ G' g := fun h => (hG' g h).elim hg (fun h => by have := HXF.out; omega)
    have hM2 := HM.out.turn hg hT' hG'
    obtain ⟨A5, c5, A8, c8, A13, c13, hx, hl1, hl2, hl3, h5, h8, h13⟩ := hM2
    have hF4 : Kd.F (Kd.int .u8) w2 (fun k => ¬ G' k ∧ Off lo g k) A3 r.length r := Kd.F_mono hF3 (fun k hk => ⟨hk.1, hk.2.elim id (fun h => by have := HXF.out; omega)⟩)
    have HXA : Aside0 (MsgAt lo (w2.setCell ⟨g, 8, none⟩ (.slice A3 r.length c3)) g G' { m with body := r }) := ⟨⟨A5, c5, A3, c3, A13, c13, hx.set 8 _, hl1, hc3, hl3, F_set h5 _, F_set hF4 _, F_set h13 _⟩⟩
    have p : w2.cell? ⟨g, 8, none⟩ = some (.slice A8 m.body.length c8) := (hx.cell 8).trans rfl
    have pf : w2.frozen? ⟨g, 8, none⟩ = false := hx.free 8
    have hxl2 := hx.lt
    have HG := Aside0.mk hG'
    have HT := Aside0.mk hT'
    have HC2 := Aside0.mk hC2
    have HGG := Aside0.mk hgG
    clear hG' hT' hC2 hx hl1 hl2 hl3 h5 h8 h13 hgG HM hF3 hF4
    go_wp2_with fail
    refine bodyPost_end (results_none rfl _ _ _) rfl ?_
    exact EndsM.right HG.out HT.out HGG.out hb HC2.out HXA.out
end Go.Proofs.Ytmjbdeoomohanaa.Mine
