/- Every input makes the law TriangulationIsMinimal answer true, and each argument reads behind the call as it read before: the given card, tied to the program's text. No condition. -/
import Derived.Test.YtmokciekndllpaaGreatDoorC13
import Derived.Test.YtmokciekndllpaaGreatDoorC20
import Derived.LaidMore
import Derived.Stop.Joined
import Derived.MakeChecks
import Derived.Test.YtmokciekndllpaaGreatDoorCR25dA
import Derived.Test.YtmokciekndllpaaGreatDoorCards
import Derived.Test.YtmokciekndllpaaGreatDoorTie
import Derived.WalkKit
import Derived.ProofKit
import Derived.OpenShut
import Derived.ShutString
import Derived.ChangeOld
import Derived.Below
import Derived.SevenTiedAt
import Derived.Test.YtmokciekndllpaaGreatDoorC40
set_option maxRecDepth 100000
set_option maxHeartbeats 16000000
namespace Go.Proofs.YtmokciekndllpaaGreatDoor
open Go Go.RowKit Go.ChangeShapes Go.WideShapes Go.Deep
section
variable {H:Type} {enc:TypeId×Value→H} {w:World} {base:Nat} {spare:Nat→Bool} {held:Bool} {fuel:Nat} {x:DataW H×List MemPlace} {a:Option Addr} {len cap:Nat}
end
theorem gTab:Tryz.prog.globalNamed "math/bits.deBruijn64tab" = some 0:=by kernel_rfl
theorem tTab:(Tryz.prog.globals[0]?).map (·.type)=some 207:=by kernel_rfl
def laidL:List (String×DataW Unit):=[("math/bits.deBruijn64tab",Rows.laid_math_bits_deBruijn64tab)]
theorem laid_list {H:Type}:(Rows.laid_math_bits_deBruijn64tab:DataW H)=.agg (Lib.deBruijn64tab.map fun (n:Nat)=>DataW.lit (.int .u8 (n:Int))):=by kernel_rfl
theorem tab_len:Lib.deBruijn64tab.length=64:=by decide
theorem tab_of_laid {W:World} (h:laidMetH Tryz.prog laidL W) : Tab W:=by
 rw [MakeChecks.laidMetH_plain _ _ _ (by kernel_rfl)] at h
 obtain ⟨ps,⟨g0,t0,cs0,f0,p0,q0,hg0,ht0,hv0,hd0,_⟩,_⟩:=h
 obtain rfl:=Option.some.inj (gTab.symm.trans hg0)
 obtain rfl:=Option.some.inj (tTab.symm.trans ht0)
 obtain ⟨xs,m1,rfl,hx1,hlen,hn3,hel⟩:=DataW.trod_array Tryz.underlying207 hd0
 rw [laid_list] at hx1
 simp only [Prod.mk.injEq,DataW.agg.injEq] at hx1
 have hc8:Tryz.prog.cellsOf 5=1:=by kernel_rfl
 intro j hj
 have hj64:j < 64:=by rw [tab_len] at hj;exact hj
 have hjx:j < xs.length:=by omega
 have h0:=hel j hj64
 rw [List.getElem?_eq_getElem hjx] at h0
 obtain ⟨k,e1,e2,_⟩:=DataW.trod_int Tryz.underlying5 h0
 have hl:=congrArg (fun l=>l[j]?) hx1.1
 simp only [List.getElem?_map,List.getElem?_eq_getElem hjx,List.getElem?_eq_getElem hj,Option.map_some,e2,Option.some.injEq,DataW.lit.injEq,Lit.int.injEq,true_and] at hl
 rw [World.var?_cell hg0 hv0 j]
 rw [hc8,Nat.mul_one] at e1
 have e3:(cs0.toList.drop j)[0]? = some (.int .u8 k):=by
  have:=congrArg (fun l=>l[0]?) e1
  simpa using this
 rw [List.getElem?_drop,Nat.add_zero,Array.getElem?_toList] at e3
 rw [e3, ← hl]
 simp [hj]
end Go.Proofs.YtmokciekndllpaaGreatDoor
namespace Go.Proofs.YtmokciekndllpaaGreatDoor.triangulationIsMinimalRow
open Go.ChangeShapes Go.WideShapes Go.ChangeAt Go.RowKit
set_option linter.unusedVariables false
theorem own:ownKnob Tryz.prog.godebug=none:=by kernel_rfl
theorem laidOut:laidOutB Tryz.prog=true:=by kernel_rfl
theorem door_met (os:Os) (args:Array Value) : laidMetH Tryz.prog laidL ((World.doorLaid Tryz.prog 400 os).forCall (fun _ _=>0) ⟨#[],args,[]⟩).memory :=
 laidMetH_of_parts3 (fuel:=8) (laidMet_of_run' 8 (by kernel_rfl) (by kernel_rfl)) (by kernel_rfl) (by kernel_rfl)
theorem lifted (os:Os) (started:os.Started) (H:Type) (enc:TypeId×Value→H) :
  ReturnsInHanded {} Tryz.checked os 9 .any (fun w args=>(Rows.triangulationIsMinimalSpec.pre enc Tryz.prog Tryz.f9 [] false w args∧laidMetH Tryz.prog laidL w)∧sizedMet enc Tryz.prog Tryz.f9 (OpenSpec.ofChange Rows.triangulationIsMinimalSpec) false w args)
   (Rows.triangulationIsMinimalSpec.post enc Tryz.prog Tryz.f9 false true false false):=by
 refine returnsInHanded_of_change_and (C:=Tryz.checked) (X:=fun w _=>laidMetH Tryz.prog laidL w) (fun _ _ _ hh h=>h.of_heap hh) own started (by kernel_rfl) Tryz.func9
  (ChangeSpec.witness_shaped (enc:=enc) (C:=Tryz.checked) (os:=os) (X:=fun w _=>laidMetH Tryz.prog laidL w) false (World.doorLaid Tryz.prog 400 os) #[.slice none 0 0,.slice none 0 0] 8 rfl (World.shaped_of_RefB (by kernel_rfl) (by kernel_rfl)) (by kernel_rfl) (by kernel_rfl) (by kernel_rfl) (door_met os _)) ?_
 intro W base args ds gs before hval0 hW _ _ hL _
 have hval:∀ (j:Nat) t v,Tryz.f9.params[j]? = some t→args[j]? = some v→Value.okWide Tryz.prog W .any base t v:=hval0
 have hW':=hW
 obtain ⟨p,q,hA0,hV,rfl,hfz,hnd⟩:=hW
 have hA:DataW.TrodAll enc Tryz.prog W 0 (fun _=>true) true Tryz.f9.params.toList args.toList ds p:=hA0
 rw [Tryz.params9] at hA hval
 obtain ⟨v0,vs0,d0,ds0,p0,q0,hargs,rfl,rfl,h0,r0⟩:=trodAll_cons hA
 obtain ⟨v1,vs1,d1,ds1,p1,q1,rfl,rfl,rfl,h1,r1⟩:=trodAll_cons r0
 obtain ⟨rfl,rfl,rfl⟩:=trodAll_nil r1
 obtain rfl:args=#[v0,v1]:=by cases args;simp_all
 obtain ⟨rfl,rfl⟩:=trodVars_none hV
 obtain ⟨a0,len0,cap0,rfl⟩:=okWide_slice Tryz.underlying22 (hval 0 22 v0 rfl rfl)
 have k0:=h0
 have lt0:∀ x∈p0,x.block < W.heap.size:=by obtain ⟨m,hm⟩:=k0;exact DataW.trod_lt m _ _ _ hm
 obtain ⟨fu0,hf0⟩:=h0
 obtain ⟨L0,hn0,hs0,ho0,hm0,hz0⟩:=open_edits (by simpa [Value.cells] using hf0)
 subst hn0
 obtain ⟨a1,len1,cap1,rfl⟩:=okWide_slice Tryz.underlying22 (hval 1 22 v1 rfl rfl)
 have k1:=h1
 have lt1:∀ x∈p1,x.block < W.heap.size:=by obtain ⟨m,hm⟩:=k1;exact DataW.trod_lt m _ _ _ hm
 obtain ⟨fu1,hf1⟩:=h1
 obtain ⟨L1,hn1,hs1,ho1,hm1,hz1⟩:=open_edits (by simpa [Value.cells] using hf1)
 subst hn1
 clear hA0 hval0
 refine (triangulationIsMinimal_walk a0 L0 cap0 a1 L1 cap1 W hs0 hs1 (tab_of_laid hL)).mono fun e W' ⟨he,bel⟩=>?_
 subst he
 exact ⟨_,rfl,_,_,_,[],_,[],hW',trodAll_mk1 (shut_bool Tryz.underlying4 _),(trodAll_cons_mk (Below.trod laidOut (by kernel_rfl) (of_decide_eq_true (by kernel_rfl)) k0 bel lt0) (trodAll_cons_mk (Below.trod laidOut (by kernel_rfl) (of_decide_eq_true (by kernel_rfl)) k1 bel lt1) trodAll_mk0)),rfl,bel.frame _,fun h=>by cases h⟩
theorem and_ofB {a b:Bool} (ha:a=true) (hb:b=true) : (a && b)=true:=by rw [ha,hb];rfl
theorem joined:joinedFacts Tryz.pinned.checked.prog 9 Tryz.f9 Rows.triangulationIsMinimalSpec Rows.triangulationIsMinimalRow=true:=by
 unfold joinedFacts
 repeat' (with_reducible refine and_ofB ?_ ?_)
 all_goals (as_aux_lemma=>kernel_rfl)
theorem over:Rows.triangulationIsMinimalRow.holds Tryz.pinned (OpenSpec.ofChange Rows.triangulationIsMinimalSpec) :=
 OpenClaim.holds_of_wide 9 Tryz.f9 rfl rfl rfl rfl rfl rfl rfl ⟨rfl,rfl,rfl,rfl,rfl⟩ rfl rfl rfl rfl rfl (by kernel_rfl) Tryz.func9 joined
  (of_decide_eq_true (by kernel_rfl)) (by unfold Func.isWrapper;first | (rw [if_pos (by decide +kernel)];kernel_rfl) | (rw [if_neg (by decide +kernel)];exact ⟨rfl,rfl⟩))
  (fun os started H enc _=>lifted os started H enc)
end Go.Proofs.YtmokciekndllpaaGreatDoor.triangulationIsMinimalRow
namespace Go.Proofs.YtmokciekndllpaaGreatDoor
open Go
theorem triangulationIsMinimal_holds:Rows.TriangulationIsMinimalCardSaid :=
 Claim7.holds_tied_plain_at .later [] [.data] true (true, "4ea48a0faabaef4b59b1cce9920f05029ff3d82c3f215ac36c3bcd021fa08ae2") true
  triangulationIsMinimalRow.over (fun _ h=>by cases h) (by kernel_rfl) (fun _ h=>by cases h) triangulationIsMinimal_row_tie rfl ⟨rfl,rfl⟩ (by kernel_rfl) rfl
  (fun f fn hf hfn=>by
   obtain rfl:f=9:=Option.some.inj ((show Tryz.prog.funcNamed "palmette/palmettelaw25.TriangulationIsMinimal" = some 9 by kernel_rfl).symm.trans hf) |>.symm
   obtain rfl:fn=Tryz.f9:=(Option.some.inj (Tryz.func9.symm.trans hfn)).symm
   exact ⟨by kernel_rfl,fun j t ht=>by
    rw [Tryz.params9] at ht
    have h3:t=22:=by
     rcases j with _ | _ | j
     ·simp at ht;simp [ht]
     ·simp at ht;simp [ht]
     ·simp at ht
    rcases h3 with rfl
    ·exact (show Tryz.prog.wantsStandIn 22=false by kernel_rfl)⟩)
  (by kernel_rfl)
#print axioms triangulationIsMinimal_holds
end Go.Proofs.YtmokciekndllpaaGreatDoor
