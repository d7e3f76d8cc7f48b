/- wire: a message that comes in. -/
import Derived.Test.YtmjbdeoomohanaaWireP
import Derived.Test.YtmjbdeoomohanaaOpen
import Derived.DataShut
set_option linter.unusedSimpArgs false
set_option linter.unusedVariables false
namespace Go.Proofs.Ytmjbdeoomohanaa.Mine
open Go.RowKit Go.Maps Go.Proofs.YtmjbdeoomohanaaW.PrintWords Go.Proofs.YtmjbdeoomohanaaW.PrintLast Go.Proofs.YtmjbdeoomohanaaW.PrintMore Go.Proofs.Ytmjbdeoomohanaa.PWirePacks Go.Proofs.Ytmjbdeoomohanaa.Turn Go.Proofs.Ytmjbdeoomohanaa.Open

theorem wf_u8 {n : Int} (h : (Lit.int .u8 n).wf = true) : 0 ≤ n ∧ n < 256 := by
  have h1 := (Lit.wf_int_iff _ _).1 h
  have e1 : IntKind.u8.min = 0 := rfl
  have e2 : IntKind.u8.max = 255 := rfl
  omega
theorem wf_u32 {n : Int} (h : (Lit.int .u32 n).wf = true) : 0 ≤ n ∧ n < 4294967296 := by
  have h1 := (Lit.wf_int_iff _ _).1 h
  have e1 : IntKind.u32.min = 0 := rfl
  have e2 : IntKind.u32.max = 4294967295 := rfl
  omega
theorem wf_u64 {n : Int} (h : (Lit.int .u64 n).wf = true) : 0 ≤ n ∧ n < 18446744073709551616 := by
  have h1 := (Lit.wf_int_iff _ _).1 h
  have e1 : IntKind.u64.min = 0 := rfl
  have e2 : IntKind.u64.max = 18446744073709551615 := rfl
  omega

abbrev Bint (k : IntKind) (n : Int) : Prop := (Lit.int k n).wf = true
abbrev Bbytes (l : List Int) : Prop := l.length * 1 ≤ 140737488351232 ∧ l.length ≤ 9223372036854775807 ∧ ∀ a, a ∈ l → Bint .u8 a
abbrev B44 (x : S44) : Prop := Bint .u64 x.f0 ∧ (Bint .u64 x.f1 ∧ Bbytes x.f2)
abbrev B23 (l : List S44) : Prop := l.length * 40 ≤ 140737488351232 ∧ l.length ≤ 9223372036854775807 ∧ ∀ a, a ∈ l → B44 a
abbrev B27 (l : List (List Int)) : Prop := l.length * 24 ≤ 140737488351232 ∧ l.length ≤ 9223372036854775807 ∧ ∀ a, a ∈ l → Bbytes a
theorem opn24 : Opn Try.prog 24 (Kd.slice 5 (Kd.int .u8)) Bbytes := opn_slice (b := 1) Try.underlying24 (by kernel_rfl) (by kernel_rfl) (opn_int Try.underlying5)
theorem opn44 : Opn Try.prog 44 k44 B44 :=
  opn_iso (d := Kd.pair (Kd.int .u64) (Kd.pair (Kd.int .u64) (Kd.slice 5 (Kd.int .u8)))) (B := fun p => Bint .u64 p.1 ∧ (Bint .u64 p.2.1 ∧ Bbytes p.2.2)) (fun x : S44 => (x.f0, x.f1, x.f2)) (fun p => ⟨p.1, p.2.1, p.2.2⟩) (fun _ => rfl)
    (opn_struct Try.underlying44 (by kernel_rfl) (opnF_cons rfl (by kernel_rfl) (opn_int Try.underlying22) (opnF_cons rfl (by kernel_rfl) (opn_int Try.underlying22) (opnF_one rfl (by kernel_rfl) opn24))))
theorem opn23 : Opn Try.prog 23 (Kd.slice 44 k44) B23 := opn_slice (b := 40) Try.underlying23 (by kernel_rfl) (by kernel_rfl) opn44
theorem opn27 : Opn Try.prog 27 (Kd.slice 24 (Kd.slice 5 (Kd.int .u8))) B27 := opn_slice (b := 24) Try.underlying27 (by kernel_rfl) (by kernel_rfl) opn24
def kM := Kd.pair (Kd.int .u8) (Kd.pair (Kd.int .u64) (Kd.pair (Kd.int .u64) (Kd.pair (Kd.int .i64) (Kd.pair (Kd.int .i64) (Kd.pair (Kd.slice 44 k44) (Kd.pair (Kd.int .u64) (Kd.pair (Kd.int .u64) (Kd.pair (Kd.slice 5 (Kd.int .u8)) (Kd.pair (Kd.int .u64) (Kd.pair (Kd.int .u8) (Kd.pair (Kd.int .u32) (Kd.pair (Kd.int .i64) (Kd.slice 24 (Kd.slice 5 (Kd.int .u8)))))))))))))))
abbrev TM := Int × Int × Int × Int × Int × List S44 × Int × Int × List Int × Int × Int × Int × Int × List (List Int)
abbrev BM (p : TM) : Prop := Bint .u8 p.1 ∧ Bint .u64 p.2.1 ∧ Bint .u64 p.2.2.1 ∧ Bint .i64 p.2.2.2.1 ∧ Bint .i64 p.2.2.2.2.1 ∧ B23 p.2.2.2.2.2.1 ∧ Bint .u64 p.2.2.2.2.2.2.1 ∧ Bint .u64 p.2.2.2.2.2.2.2.1 ∧ Bbytes p.2.2.2.2.2.2.2.2.1 ∧ Bint .u64 p.2.2.2.2.2.2.2.2.2.1 ∧ Bint .u8 p.2.2.2.2.2.2.2.2.2.2.1 ∧ Bint .u32 p.2.2.2.2.2.2.2.2.2.2.2.1 ∧ Bint .i64 p.2.2.2.2.2.2.2.2.2.2.2.2.1 ∧ B27 p.2.2.2.2.2.2.2.2.2.2.2.2.2
theorem opn29 : Opn Try.prog 29 kM BM :=
  opn_struct Try.underlying29 (by kernel_rfl) (opnF_cons rfl (by kernel_rfl) (opn_int Try.underlying5) (opnF_cons rfl (by kernel_rfl) (opn_int Try.underlying22) (opnF_cons rfl (by kernel_rfl) (opn_int Try.underlying22) (opnF_cons rfl (by kernel_rfl) (opn_int Try.underlying3) (opnF_cons rfl (by kernel_rfl) (opn_int Try.underlying3) (opnF_cons rfl (by kernel_rfl) opn23 (opnF_cons rfl (by kernel_rfl) (opn_int Try.underlying22) (opnF_cons rfl (by kernel_rfl) (opn_int Try.underlying22) (opnF_cons rfl (by kernel_rfl) opn24 (opnF_cons rfl (by kernel_rfl) (opn_int Try.underlying22) (opnF_cons rfl (by kernel_rfl) (opn_int Try.underlying5) (opnF_cons rfl (by kernel_rfl) (opn_int Try.underlying25) (opnF_cons rfl (by kernel_rfl) (opn_int Try.underlying26) (opnF_one rfl (by kernel_rfl) opn27))))))))))))))
theorem heap44 : Kd.Heap k44 := Kd.heap_iso _ (Kd.heap_pair (Kd.heap_int _) (Kd.heap_pair (Kd.heap_int _) (Kd.heap_slice _ (Kd.heap_int _))))
theorem msg_of {w : World} {p : TM} {cs : Array Value} (h : kM.K w p cs.toList) (hb : BM p) : ∃ m, ArgF w (fun k => k < w.heap.size) m cs ∧ RgM m := by
  obtain ⟨x0, x1, x2, x3, x4, x5, x6, x7, x8, x9, x10, x11, x12, x13⟩ := p
  obtain ⟨c0, d0, e0, h0, c1, d1, rfl, h1, c2, d2, rfl, h2, c3, d3, rfl, h3, c4, d4, rfl, h4, c5, d5, rfl, h5, c6, d6, rfl, h6, c7, d7, rfl, h7, c8, d8, rfl, h8, c9, d9, rfl, h9, c10, d10, rfl, h10, c11, d11, rfl, h11, c12, d12, rfl, h12, h13⟩ := h
  obtain ⟨b0, b1, b2, b3, b4, b5, b6, b7, b8, b9, b10, b11, b12, b13⟩ := hb
  obtain ⟨A5, k5, rfl, hl5, hC5⟩ := h5
  obtain ⟨A8, k8, rfl, hl8, hC8⟩ := h8
  obtain ⟨A13, k13, rfl, hl13, hC13⟩ := h13
  have q0 : c0 = [.int .u8 x0] := h0
  have q1 : c1 = [.int .u64 x1] := h1
  have q2 : c2 = [.int .u64 x2] := h2
  have q3 : c3 = [.int .i64 x3] := h3
  have q4 : c4 = [.int .i64 x4] := h4
  have q6 : c6 = [.int .u64 x6] := h6
  have q7 : c7 = [.int .u64 x7] := h7
  have q9 : c9 = [.int .u64 x9] := h9
  have q10 : c10 = [.int .u8 x10] := h10
  have q11 : c11 = [.int .u32 x11] := h11
  have q12 : c12 = [.int .i64 x12] := h12
  subst q0 q1 q2 q3 q4 q6 q7 q9 q10 q11 q12
  have hcs : cs = mcells ⟨x0, x1, x2, x3, x4, x5, x6, x7, x8, x9, x10, x11, x12, x13⟩ A5 k5 A8 k8 A13 k13 := by
    apply Array.toList_inj.1
    rw [e0]
    rfl
  refine ⟨⟨x0, x1, x2, x3, x4, x5, x6, x7, x8, x9, x10, x11, x12, x13⟩, ⟨A5, k5, A8, k8, A13, k13, hcs, hl5, hl8, hl13, Kd.C_F heap44 hC5, Kd.C_F (Kd.heap_int _) hC8, Kd.C_F (Kd.heap_slice _ (Kd.heap_int _)) hC13⟩, ?_⟩
  refine ⟨?_, wf_u64 b1, wf_u64 b2, wf_u64 b6, wf_u64 b7, wf_u64 b9, wf_u8 b10, wf_u32 b11, ⟨?_, fun x hx => ?_⟩, ⟨?_, fun y hy => wf_u8 (b8.2.2 y hy)⟩, ⟨?_, fun x hx y hy => wf_u8 ((b13.2.2 x hx).2.2 y hy)⟩⟩
  · have := wf_u8 b0
    simp only
    omega
  · have h1 : x5.length * 40 ≤ 140737488351232 := b5.1
    show x5.length ≤ _
    omega
  · have := b5.2.2 x hx
    exact ⟨(wf_u64 this.1).1, (wf_u64 this.1).2, (wf_u64 this.2.1).1, (wf_u64 this.2.1).2, fun y hy => wf_u8 (this.2.2.2.2 y hy)⟩
  · have h1 : x8.length * 1 ≤ 140737488351232 := b8.1
    show x8.length ≤ _
    omega
  · have h1 : x13.length * 24 ≤ 140737488351232 := b13.1
    show x13.length ≤ _
    omega
end Go.Proofs.Ytmjbdeoomohanaa.Mine
