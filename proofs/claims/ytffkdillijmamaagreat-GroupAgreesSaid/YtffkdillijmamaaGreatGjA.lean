/- The statement GroupAgrees, for every input; no conditions. -/
import Derived.Test.YtffkdillijmamaaGreatGjAw
namespace Go.Proofs.YtffkdillijmamaaGreat
open Go.Proofs.Tryz
set_option maxRecDepth 100000
open Go Go.RowKit Go.ChangeShapes Go.WideShapes Go.ChangeAt
theorem AsH (os:Os) (Y:os.Started) (H:Type) (enc:TypeId × Value->H) :
  ReturnsInHanded {} Tryz.checked os 4 .any (Rows.groupAgreesSpec.pre6 enc prog Tryz.f4 Rows.groupAgreesRow.domain false) (Rows.groupAgreesSpec.post enc prog Tryz.f4 false true false false):=by
 refine returnsInHanded_of_change (C:=Tryz.checked) MI Y (by kernel_rfl) func4
  (ChangeSpec.witness6 (enc:=enc) (C:=Tryz.checked) false ⟨#[], #[.int .u8 0, .int .i64 0, .slice none 0 0],[]⟩ 8 (by kernel_rfl) (by kernel_rfl) (by kernel_rfl) (by kernel_rfl)) ?_
 intro W base E ds gs a4 F J a5 _;have r:∀ (j:Nat) t v,Tryz.f4.params[j]?=some t->E[j]?=some v->Value.okWide prog W .any base t v:=F;have a3:=J;obtain ⟨p,q,O,hV,rfl,a6,a7⟩:=J;have U:DataW.TrodAll enc prog W 0 (fun _=>true) true Tryz.f4.params.toList E.toList ds p:=O;rw [Tryz.params4] at U r;obtain ⟨v0,v1,v2,d0,d1,d2,p0,p1,p2,rfl,rfl,rfl,h0,h1,u⟩:=trodAll_three U;obtain ⟨a0,rfl,rfl,rfl,w0⟩:=open_int underlying5 (r 0 5 v0 rfl rfl) h0;have b0:=Go.bounds_u8 w0;obtain ⟨a0,rfl⟩:∃ q:Nat,a0=(q:Int):=⟨a0.toNat,om⟩;obtain ⟨a1,rfl,rfl,rfl,w1⟩:=open_int underlying3 (r 1 3 v1 rfl rfl) h1;obtain ⟨a2,n2,c2,rfl⟩:=okWide_slice underlying43 (r 2 43 v2 rfl rfl);obtain ⟨f2,u⟩:=u;obtain ⟨l,hl⟩:=AeY u;obtain ⟨rfl,rfl⟩:=trodVars_none hV;clear O F;refine (AsZ (nv:=a0) om hl).mono fun e W' he => ?_;obtain ⟨v,o',rfl,hs,rfl⟩:=he;exact ⟨_,rfl,MW Jl (by kernel_rfl) rfl underlying4 a3 rfl rfl rfl rfl rfl hs.below⟩
theorem groupAgrees_holds:Rows.GroupAgreesSaid:=
 OpenClaim.holds_of_wide 4 Tryz.f4 rfl rfl rfl rfl rfl rfl rfl ⟨rfl,rfl,rfl,rfl,rfl⟩ rfl rfl rfl rfl rfl (by kernel_rfl) func4 (by kernel_rfl)
  (of_decide_eq_true (by kernel_rfl)) (by unfold Func.isWrapper;first | (rw [if_pos (by decide +kernel)];kernel_rfl) | (rw [if_neg (by decide +kernel)];exact ⟨rfl,rfl⟩))
  (fun os started H enc _=>AsH os started H enc)

end Go.Proofs.YtffkdillijmamaaGreat
