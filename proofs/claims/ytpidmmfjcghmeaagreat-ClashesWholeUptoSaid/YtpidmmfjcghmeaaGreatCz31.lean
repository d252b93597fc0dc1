/- Towards clashesWhole_upto. -/
import Derived.Test.YtpidmmfjcghmeaaGreatCz26
set_option maxRecDepth 100000
set_option maxHeartbeats 16000000
set_option linter.all false
namespace Go.Proofs.YtpidmmfjcghmeaaGreat.Ab
theorem DP:chk (callA Tryz.prog cfg 25 (.fn 21) [vTabs,.sl hMN 0 3 3] hT0) vT hTK (mkT hTL) hTN=true:=by kernel_rfl
theorem CY:chk (callA Tryz.prog cfg 25 (.fn 22) [.agg gC] rT.2) vS [] .nil hSN=true:=by kernel_rfl
end Go.Proofs.YtpidmmfjcghmeaaGreat.Ab
namespace Go.Proofs.YtpidmmfjcghmeaaGreat.Ab
theorem wJ:chk (callA Tryz.prog cfg 25 (.fn 45) aB sB) vB oBK (mkT oBL) oBN=true:=by kernel_rfl
theorem sW:chk (callA Tryz.prog cfg 25 (.fn 45) aB2 sB2) vB2 oB2K (mkT oB2L) oB2N=true:=by kernel_rfl
end Go.Proofs.YtpidmmfjcghmeaaGreat.Ab
namespace Go.Proofs.YtpidmmfjcghmeaaGreat.Ab
theorem B7:chk (callA Tryz.prog cfgM 25 (.fn 20) [.agg gC] hM0) vM hMK (mkT hML) hMN=true:=by kernel_rfl
end Go.Proofs.YtpidmmfjcghmeaaGreat.Ab
namespace Go.Proofs.YtpidmmfjcghmeaaGreat.Ab
theorem xP:chk (callA Tryz.prog cfg 25 (.fn 19) [text] h00) vP hPK (mkT hPL) hPN=true:=by kernel_rfl
end Go.Proofs.YtpidmmfjcghmeaaGreat.Ab
namespace Go.Proofs.YtpidmmfjcghmeaaGreat.Ab
theorem B6:chk (callA Tryz.prog cfgB2 25 (.fn 98) aL sL) vL oLK (mkT oLL) oLN=true:=by kernel_rfl
end Go.Proofs.YtpidmmfjcghmeaaGreat.Ab
namespace Go.Proofs.YtpidmmfjcghmeaaGreat.Ab
open Go.RowKit
variable {W:World}
noncomputable def isTrue (r:Option (AV×H)):Bool:=match r with | some (.b true,_)=>true | _=>false
theorem xG:isTrue (callA Tryz.prog cfgF 25 (.fn 5) [] h00)=true:=by kernel_rfl
theorem zQ:CfgOK Tryz.prog W cfgB2:=cO fI (iI fI sW)
theorem D7:CfgOK Tryz.prog W cfgM:=cO (cO fI (iI fI wJ)) (iI zQ B6)
theorem D6:CfgOK Tryz.prog W cfgF:=
 cO (cO (cO (cO fI (iI fI xP)) (iI D7 B7)) (iI fI DP)) (iI fI CY)
theorem DB (w:World):HR w (fun _=>none) h00 w:=
 ⟨(fun i o hi=>by
  have:(T.nil:T AO).get i=some o:=hi;rw [T.get_nil] at this;cases this),(fun i j b k k' h1 h2 h3=>by cases h3),(fun _ _=>rfl),(fun i hi=>by cases hi),(fun i hi=>by cases hi),(fun i hi=>by cases hi),List.nodup_nil,gR _ w⟩
theorem lives_all (w:World):Calls Tryz.prog 5 #[] w fun e w'=>e=.returned (.bool true)∧Below w.heap.size w w':=by
 have h:=xG;unfold isTrue at h
 split at h
 ·rename_i hh hx;obtain ⟨_,h2⟩:=(o8 (W:=w) D6 25).fn _ _ _ _ hx (fun _=>none) w [] (DB w) .nil;refine h2.mono ?_;rintro e w' ⟨v,rfl,σ',_,h4,h5⟩;exact ⟨by rw [fP h4],h5.bel⟩
 ·cases h
end Go.Proofs.YtpidmmfjcghmeaaGreat.Ab
