/- What a call of TopEverySave gives, for whatever is handed in. No condition. -/
import Derived.Handed
import Derived.JoinedOf
import Derived.OpenShut
import Derived.ProofKit
import Derived.Test.YtkihpcjfhilgcaaGreatRows
import Derived.Test.YtkihpcjfhilgcaaGreatZ24
namespace Go.Abs
open Go.Proofs Go.Proofs.YtkihpcjfhilgcaaGreat Go.ChangeShapes Go.WideShapes Go.RowKit
noncomputable def S3 : Sums := fun f => bif Nat.beq f 80 then some masksS else bif Nat.beq f 7 then some awS else none
theorem S3_ok : SOk S3 := {
  masks := rfl
  none f h1 h2 := by
    unfold S3
    have e1 : Nat.beq f 80 = false := by cases h : Nat.beq f 80 with
      | false => rfl
      | true => exact absurd (Nat.eq_of_beq_eq_true h) h1
    have e2 : Nat.beq f 7 = false := by cases h : Nat.beq f 7 with
      | false => rfl
      | true => exact absurd (Nat.eq_of_beq_eq_true h) h2
    rw [e1, e2]; rfl }
theorem lit_lt {n : Int} (h : (Lit.int .i64 n).wf = true) : n < 9223372036854775808 := by
  simp [Lit.wf, IntKind.min, IntKind.max, IntKind.signed, IntKind.bits] at h
  omega
variable {H : Type} {enc : TypeId × Value → H}
set_option maxRecDepth 100000 in
theorem save_contract (hS3 : SumSound Tryz.prog S3) (W : World) (base : Nat) (args : Array Value) (ds gs : List (DataW H)) (before : List MemPlace)
    (hval : ∀ (j : Nat) t v, Tryz.f3.params[j]? = some t → args[j]? = some v → Value.okWide Tryz.prog W .any base t v)
    (hW : DataW.Whole enc Tryz.prog Tryz.f3.params.toList Rows.topEverySaveSpec.vars false W args.toList ds gs before) :
    Calls Tryz.prog 3 args W fun e W' => ∃ v, e = .returned v ∧ Rows.topEverySaveSpec.post enc Tryz.prog Tryz.f3 false true false false W args v W' := by
  have hW' := hW
  obtain ⟨p, q, hA0, hV, rfl, hfz, hnd⟩ := hW
  have hA : DataW.TrodAll enc Tryz.prog W 0 (fun _ => true) true Tryz.f3.params.toList args.toList ds p := hA0
  rw [Tryz.params3] at hA hval
  obtain ⟨v0, vs0, d0, ds0, p0, q0, hargs, rfl, rfl, h0, r0⟩ := trodAll_cons hA
  obtain ⟨v1, vs1, d1, ds1, p1, q1, rfl, rfl, rfl, h1, r1⟩ := trodAll_cons r0
  obtain ⟨v2, vs2, d2, ds2, p2, q2, rfl, rfl, rfl, h2, r2⟩ := trodAll_cons r1
  obtain ⟨rfl, rfl, rfl⟩ := trodAll_nil r2
  obtain rfl : args = #[v0, v1, v2] := by cases args; simp_all
  obtain ⟨rfl, rfl⟩ := trodVars_none hV
  obtain ⟨x0, x1, x2, x3, x4, y0, y1, y2, y3, y4, m, rfl, rfl, rfl, t0, t1, t2, t3, t4⟩ := open_agg5 Tryz.underlying25 (by kernel_rfl) cells25 (hval 0 25 v0 rfl rfl) h0
  obtain ⟨z0, e0, rfl, w0⟩ := DataW.trod_int Tryz.underlying3 t0
  obtain ⟨z1, e1, rfl, w1⟩ := DataW.trod_int Tryz.underlying3 t1
  obtain ⟨z2, e2, rfl, w2⟩ := DataW.trod_int Tryz.underlying3 t2
  obtain rfl : x0 = .int .i64 z0 := by simpa using e0
  obtain rfl : x1 = .int .i64 z1 := by simpa using e1
  obtain rfl : x2 = .int .i64 z2 := by simpa using e2
  obtain ⟨cut, rfl, rfl, rfl, w3⟩ := open_int Tryz.underlying3 (hval 2 3 v2 rfl rfl) h2
  obtain ⟨ai, li, ci, rfl⟩ := okWide_slice Tryz.underlying26 (hval 1 26 v1 rfl rfl)
  obtain ⟨m1, hm1⟩ := h1
  have hm1 : DataW.trod enc Tryz.prog W 0 (fun _ => true) true m1 26 [.slice ai li ci] = some (d1, p1) := hm1
  clear hA0
  obtain ⟨sB, bf, b1, b2, b3⟩ := ints_hW t3
  obtain ⟨sU, up, u1, u2, u3⟩ := rows_hW t4
  obtain ⟨sI, img, i1, i2, i3, i4⟩ := img_hW hm1
  obtain ⟨LL, k1, k2, k3⟩ : ∃ LL : Nat, 1000000 ≤ LL ∧ bf.length < LL ∧ up.length < LL := ⟨1000000 + bf.length + up.length + 1, by omega, by omega, by omega⟩
  obtain ⟨v, h', he, rfl⟩ := top_spec (X := X00) (S := S3) (L := LL) (d := 0) (sz := z0) (st := z1) (wd := z2) (sB := sB) (sU := sU) (sI := sI) (bf := bf) (up := up) (img := img)
    S3_ok rfl k1 (WF.ofWorld W) cut (lit_lt w1) (lit_lt w2) k2 b3 k3 u3 b2 u2 i2 i3 i4
  have hv : VRs (ioN W.heap.size) [.agg [.int .i64 z0, .int .i64 z1, .int .i64 z2, sB, sU], sI, .int .i64 cut] [.agg #[.int .i64 z0, .int .i64 z1, .int .i64 z2, x3, x4], .slice ai li ci, .int .i64 cut] :=
    .cons (VR.agg_iff.2 ⟨[.int .i64 z0, .int .i64 z1, .int .i64 z2, x3, x4], rfl, .cons (.int _ _) (.cons (.int _ _) (.cons (.int _ _) (.cons (absV_vr b1) (.cons (absV_vr u1) (.nil _)))))⟩) (.cons (absV_vr i1) (.cons (.int _ _) (.nil _)))
  have hcall := (callA_sound ext_none hS3 follows_mixed 11).fn 3 _ _ _ _ he _ W _ (R.ofWorld W) hv
  refine Calls.mono hcall fun e W' ret => ?_
  cases e with
  | returned u =>
    obtain ⟨ι', hvu, hR', k⟩ := ret
    cases hvu
    have hh := k.ofWorld
    refine ⟨_, rfl, post_of_kept (pa := ([] ++ ([] ++ ([] ++ (y3.2 ++ y4.2)))) ++ (p1 ++ ([] ++ []))) (pv := []) hW' (fun _ _ _ => trodAll_cons_mk (shut_bool Tryz.underlying4 _) trodAll_mk0) (fun sp hsp => ?_) (fun _ _ => rfl) rfl k.os k.output hh (ok_one (by kernel_rfl) rfl (okWide_bool_mk Tryz.underlying4 _))⟩
    have a0 := shut_agg5 (enc := enc) (w := W') (base := 0) (spare := sp) (held := true) Tryz.underlying25 (by kernel_rfl) cells25 (reshut_int (W' := W') Tryz.underlying3 t0 sp) (reshut_int (W' := W') Tryz.underlying3 t1 sp) (reshut_int (W' := W') Tryz.underlying3 t2 sp)
      (reshut_ints Tryz.underlying22 Tryz.underlying3 cells3 hh t3 sp fun p hp => hsp p (by simp [hp])) (reshut_rows hh t4 sp fun p hp => hsp p (by simp [hp]))
    have a1 : DataW.Trod enc Tryz.prog W' 0 sp true 26 (.slice ai li ci) d1 p1 := reshut_ints Tryz.underlying26 Tryz.underlying5 cells5 hh hm1 sp fun p hp => hsp p (by simp [hp])
    exact trodAll_cons_mk a0 (trodAll_cons_mk a1 (trodAll_cons_mk (shut_int Tryz.underlying3 w3) trodAll_mk0))
  | _ => exact ret.elim
end Go.Abs
