/- Every input makes the law TriangulationSeparators answer true, and each argument reads behind the call as it read before: the given card, tied to the program's text. No condition. -/
import Derived.Test.YtmokciekndllpaaGreatDoorC13
import Derived.Test.YtmokciekndllpaaGreatDoorC20
import Derived.LaidMore
import Derived.Stop.Joined
import Derived.MakeChecks
import Derived.Test.YtmokciekndllpaaGreatDoorC11
import Derived.WalkKit
import Derived.ProofKit
import Derived.WideShapes
import Derived.OpenShut
import Derived.Test.YtmokciekndllpaaGreatDoorCR25bA
import Derived.Test.YtmokciekndllpaaGreatDoorCards
import Derived.Test.YtmokciekndllpaaGreatDoorTie
import Derived.ShutString
import Derived.ChangeOld
import Derived.Below
import Derived.SevenTiedAt
import Derived.Test.YtmokciekndllpaaGreatDoorC38
set_option maxRecDepth 100000
set_option maxHeartbeats 16000000
namespace Go.Proofs.YtmokciekndllpaaGreatDoor
open Go Go.RowKit Go.ChangeShapes Go.WideShapes Go.Deep
section
variable {H:Type} {enc:TypeId×Value→H} {w:World} {base:Nat} {spare:Nat→Bool} {held:Bool} {fuel:Nat} {x:DataW H×List MemPlace} {a:Option Addr} {len cap:Nat}
end
theorem gTab:Tryz.prog.globalNamed "math/bits.deBruijn64tab" = some 0:=by kernel_rfl
theorem tTab:(Tryz.prog.globals[0]?).map (·.type)=some 207:=by kernel_rfl
def laidL:List (String×DataW Unit):=[("math/bits.deBruijn64tab",Rows.laid_math_bits_deBruijn64tab)]
theorem laid_list {H:Type}:(Rows.laid_math_bits_deBruijn64tab:DataW H)=.agg (Lib.deBruijn64tab.map fun (n:Nat)=>DataW.lit (.int .u8 (n:Int))):=by kernel_rfl
theorem tab_len:Lib.deBruijn64tab.length=64:=by decide
theorem tab_of_laid {W:World} (h:laidMetH Tryz.prog laidL W) : Tab W:=by
 rw [MakeChecks.laidMetH_plain _ _ _ (by kernel_rfl)] at h
 obtain ⟨ps,⟨g0,t0,cs0,f0,p0,q0,hg0,ht0,hv0,hd0,_⟩,_⟩:=h
 obtain rfl:=Option.some.inj (gTab.symm.trans hg0)
 obtain rfl:=Option.some.inj (tTab.symm.trans ht0)
 obtain ⟨xs,m1,rfl,hx1,hlen,hn3,hel⟩:=DataW.trod_array Tryz.underlying207 hd0
 rw [laid_list] at hx1
 simp only [Prod.mk.injEq,DataW.agg.injEq] at hx1
 have hc8:Tryz.prog.cellsOf 5=1:=by kernel_rfl
 intro j hj
 have hj64:j < 64:=by rw [tab_len] at hj;exact hj
 have hjx:j < xs.length:=by omega
 have h0:=hel j hj64
 rw [List.getElem?_eq_getElem hjx] at h0
 obtain ⟨k,e1,e2,_⟩:=DataW.trod_int Tryz.underlying5 h0
 have hl:=congrArg (fun l=>l[j]?) hx1.1
 simp only [List.getElem?_map,List.getElem?_eq_getElem hjx,List.getElem?_eq_getElem hj,Option.map_some,e2,Option.some.injEq,DataW.lit.injEq,Lit.int.injEq,true_and] at hl
 rw [World.var?_cell hg0 hv0 j]
 rw [hc8,Nat.mul_one] at e1
 have e3:(cs0.toList.drop j)[0]? = some (.int .u8 k):=by
  have:=congrArg (fun l=>l[0]?) e1
  simpa using this
 rw [List.getElem?_drop,Nat.add_zero,Array.getElem?_toList] at e3
 rw [e3, ← hl]
 simp [hj]
def packN (s:Nat→Nat) : Nat→Nat
 | 0=>0
 | k+1=>packN s k+s k*2 ^ (64*k)
theorem packN_lt (s:Nat→Nat) (h:∀ i,s i < 18446744073709551616) : ∀ k,packN s k < 2 ^ (64*k)
 | 0=>by simp [packN]
 | k+1=>by
  have ih:=packN_lt s h k
  have hk:=h k
  have e:2 ^ (64*(k+1))=18446744073709551616*2 ^ (64*k):=by rw [show 64*(k+1)=64+64*k by omega,Nat.pow_add]
  rw [packN,e]
  have:(s k+1)*2 ^ (64*k)≤18446744073709551616*2 ^ (64*k):=Nat.mul_le_mul_right _ hk
  rw [Nat.add_mul,Nat.one_mul] at this
  omega
theorem packN_word (s:Nat→Nat) (h:∀ i,s i < 18446744073709551616) : ∀ k i,i < k→wdN (packN s k) i=s i
 | 0,i,hi=>by omega
 | k+1,i,hi=>by
  have hlt:=packN_lt s h k
  by_cases he:i=k
  ·subst he
   unfold wdN
   rw [packN,Nat.shiftRight_eq_div_pow,Nat.add_mul_div_right _ _ (Nat.pow_pos (by decide)),Nat.div_eq_of_lt hlt,Nat.zero_add]
   exact Nat.mod_eq_of_lt (h i)
  ·have ih:=packN_word s h k i (by omega)
   rw [← ih]
   apply Nat.eq_of_testBit_eq
   intro j
   rw [wdN_bit,wdN_bit]
   by_cases hj:j < 64
   ·simp only [hj,decide_true,Bool.true_and]
    rw [packN,Nat.add_comm,Nat.mul_comm,Nat.testBit_two_pow_mul_add _ hlt]
    rw [if_pos (by omega)]
   ·simp [hj]
section
variable {H:Type} {enc:TypeId×Value→H} {w:World} {base:Nat} {spare:Nat→Bool} {held:Bool}
theorem open_set {v:Value} {d:DataW H} {p:List MemPlace} {r:Reach} {b0:Nat} (hv:Value.okWide Tryz.prog w r b0 25 v) (h:DataW.Trod enc Tryz.prog w base spare held 25 v d p) :
  ∃ N:Nat,v=.agg (setC N)∧N < 2 ^ (64*16):=by
 have hv2:=hv
 unfold Value.okWide at hv2
 rw [Tryz.underlying25] at hv2
 obtain ⟨cs,rfl,hsz,_⟩:=hv2
 have h16:cs.size=16:=hsz.trans (by kernel_rfl)
 obtain ⟨fuel,hf⟩:=h
 obtain ⟨xs,m,_,_,_,hlen,hg⟩:=DataW.trod_array Tryz.underlying25 hf
 have hce:Program.cellsOf Tryz.prog 23=1:=by kernel_rfl
 have hall:∀ i,i < 16 → ∃ n:Nat,cs[i]? = some (.int .u64 (n:Int))∧n < 18446744073709551616:=by
  intro i hi
  have h1:=hg i hi
  rw [hce,Nat.mul_one] at h1
  have hc:cs[i]? = some (cs[i]'(by omega)):=Array.getElem?_eq_getElem (by omega)
  have hd:(cs.toList.drop i).take 1=[cs[i]'(by omega)]:=by
   rw [List.drop_eq_getElem_cons (by simpa using (show i < cs.size by omega))]
   simp
  have h2:DataW.trod enc Tryz.prog w base spare held m 23 [cs[i]'(by omega)]=some (xs[i]'(by omega)):=by
   rw [← hd]
   exact h1.trans (List.getElem?_eq_getElem (by omega))
  obtain ⟨z,ez,_,wz⟩:=DataW.trod_int Tryz.underlying23 h2
  simp only [List.cons.injEq,and_true] at ez
  have hb:=Go.bounds_u64 wz
  refine ⟨z.toNat,?_,by omega⟩
  rw [hc,ez,show ((z.toNat:Nat) : Int)=z by omega]
 obtain ⟨f,hf2⟩:=choose_lt hall
 have hN:∀ i,(if i < 16 then f i else 0) < 18446744073709551616:=by
  intro i
  split
  ·exact (hf2 i (by omega)).2
  ·decide
 refine ⟨packN (fun i=>if i < 16 then f i else 0) 16,?_,packN_lt _ hN 16⟩
 congr 1
 apply Array.ext_getElem?
 intro i
 by_cases hi:i < 16
 ·rw [setC_get _ hi,(hf2 i hi).1]
  unfold wd
  rw [packN_word _ hN 16 i hi,if_pos hi]
 ·have h1:∀ a:Array Value,a.size=16→a[i]? = none:=fun a h=>Array.getElem?_eq_none (by omega)
  rw [h1 _ h16,h1 _ (setC_size _)]
end
end Go.Proofs.YtmokciekndllpaaGreatDoor
namespace Go.Proofs.YtmokciekndllpaaGreatDoor.triangulationSeparatorsRow
open Go.ChangeShapes Go.WideShapes Go.ChangeAt Go.RowKit
set_option linter.unusedVariables false
set_option exponentiation.threshold 2000
theorem own:ownKnob Tryz.prog.godebug=none:=by kernel_rfl
theorem laidOut:laidOutB Tryz.prog=true:=by kernel_rfl
theorem door_met (os:Os) (args:Array Value) : laidMetH Tryz.prog laidL ((World.doorLaid Tryz.prog 400 os).forCall (fun _ _=>0) ⟨#[],args,[]⟩).memory :=
 laidMetH_of_parts3 (fuel:=8) (laidMet_of_run' 8 (by kernel_rfl) (by kernel_rfl)) (by kernel_rfl) (by kernel_rfl)
theorem lifted (os:Os) (started:os.Started) (H:Type) (enc:TypeId×Value→H) :
  ReturnsInHanded {} Tryz.checked os 3 .any (fun w args=>(Rows.triangulationSeparatorsSpec.pre enc Tryz.prog Tryz.f3 [] false w args∧laidMetH Tryz.prog laidL w)∧sizedMet enc Tryz.prog Tryz.f3 (OpenSpec.ofChange Rows.triangulationSeparatorsSpec) false w args)
   (Rows.triangulationSeparatorsSpec.post enc Tryz.prog Tryz.f3 false true false false):=by
 refine returnsInHanded_of_change_and (C:=Tryz.checked) (X:=fun w _=>laidMetH Tryz.prog laidL w) (fun _ _ _ hh h=>h.of_heap hh) own started (by kernel_rfl) Tryz.func3
  (ChangeSpec.witness_shaped (enc:=enc) (C:=Tryz.checked) (os:=os) (X:=fun w _=>laidMetH Tryz.prog laidL w) false (World.doorLaid Tryz.prog 400 os) #[.slice none 0 0,.int .u8 0,.agg #[.int .u64 0,.int .u64 0,.int .u64 0,.int .u64 0,.int .u64 0,.int .u64 0,.int .u64 0,.int .u64 0,.int .u64 0,.int .u64 0,.int .u64 0,.int .u64 0,.int .u64 0,.int .u64 0,.int .u64 0,.int .u64 0],.agg #[.int .u64 0,.int .u64 0,.int .u64 0,.int .u64 0,.int .u64 0,.int .u64 0,.int .u64 0,.int .u64 0,.int .u64 0,.int .u64 0,.int .u64 0,.int .u64 0,.int .u64 0,.int .u64 0,.int .u64 0,.int .u64 0]] 8 rfl (World.shaped_of_RefB (by kernel_rfl) (by kernel_rfl)) (by kernel_rfl) (by kernel_rfl) (by kernel_rfl) (door_met os _)) ?_
 intro W base args ds gs before hval0 hW _ _ hL _
 have hval:∀ (j:Nat) t v,Tryz.f3.params[j]? = some t→args[j]? = some v→Value.okWide Tryz.prog W .any base t v:=hval0
 have hW':=hW
 obtain ⟨p,q,hA0,hV,rfl,hfz,hnd⟩:=hW
 have hA:DataW.TrodAll enc Tryz.prog W 0 (fun _=>true) true Tryz.f3.params.toList args.toList ds p:=hA0
 rw [Tryz.params3] at hA hval
 obtain ⟨v0,vs0,d0,ds0,p0,q0,hargs,rfl,rfl,h0,r0⟩:=trodAll_cons hA
 obtain ⟨v1,vs1,d1,ds1,p1,q1,rfl,rfl,rfl,h1,r1⟩:=trodAll_cons r0
 obtain ⟨v2,vs2,d2,ds2,p2,q2,rfl,rfl,rfl,h2,r2⟩:=trodAll_cons r1
 obtain ⟨v3,vs3,d3,ds3,p3,q3,rfl,rfl,rfl,h3,r3⟩:=trodAll_cons r2
 obtain ⟨rfl,rfl,rfl⟩:=trodAll_nil r3
 obtain rfl:args=#[v0,v1,v2,v3]:=by cases args;simp_all
 obtain ⟨rfl,rfl⟩:=trodVars_none hV
 obtain ⟨a0,len0,cap0,rfl⟩:=okWide_slice Tryz.underlying22 (hval 0 22 v0 rfl rfl)
 have k0:=h0
 have lt0:∀ x∈p0,x.block < W.heap.size:=by obtain ⟨m,hm⟩:=k0;exact DataW.trod_lt m _ _ _ hm
 obtain ⟨fu0,hf0⟩:=h0
 obtain ⟨L0,hn0,hs0,ho0,hm0,hz0⟩:=open_edits (by simpa [Value.cells] using hf0)
 subst hn0
 obtain ⟨a1,rfl,rfl,rfl,w1⟩:=open_int Tryz.underlying5 (hval 1 5 v1 rfl rfl) h1
 have k2:=h2
 have lt2:∀ x∈p2,x.block < W.heap.size:=by obtain ⟨m,hm⟩:=k2;exact DataW.trod_lt m _ _ _ hm
 obtain ⟨x2,rfl,ho2⟩:=open_set (hval 2 25 v2 rfl rfl) h2
 have k3:=h3
 have lt3:∀ x∈p3,x.block < W.heap.size:=by obtain ⟨m,hm⟩:=k3;exact DataW.trod_lt m _ _ _ hm
 obtain ⟨x3,rfl,ho3⟩:=open_set (hval 3 25 v3 rfl rfl) h3
 clear hA0 hval0
 refine (triangulationSeparators_walk a0 L0 cap0 a1 x2 x3 W hs0 (Go.bounds_u8 w1) ho2 ho3 (tab_of_laid hL)).mono fun e W' ⟨he,bel⟩=>?_
 subst he
 exact ⟨_,rfl,_,_,_,[],_,[],hW',trodAll_mk1 (shut_bool Tryz.underlying4 _),(trodAll_cons_mk (Below.trod laidOut (by kernel_rfl) (of_decide_eq_true (by kernel_rfl)) k0 bel lt0) (trodAll_cons_mk (shut_int Tryz.underlying5 w1) (trodAll_cons_mk (Below.trod laidOut (by kernel_rfl) (of_decide_eq_true (by kernel_rfl)) k2 bel lt2) (trodAll_cons_mk (Below.trod laidOut (by kernel_rfl) (of_decide_eq_true (by kernel_rfl)) k3 bel lt3) trodAll_mk0)))),rfl,bel.frame _,fun h=>by cases h⟩
theorem and_ofB {a b:Bool} (ha:a=true) (hb:b=true) : (a && b)=true:=by rw [ha,hb];rfl
theorem joined:joinedFacts Tryz.pinned.checked.prog 3 Tryz.f3 Rows.triangulationSeparatorsSpec Rows.triangulationSeparatorsRow=true:=by
 unfold joinedFacts
 repeat' (with_reducible refine and_ofB ?_ ?_)
 all_goals (as_aux_lemma=>kernel_rfl)
theorem over:Rows.triangulationSeparatorsRow.holds Tryz.pinned (OpenSpec.ofChange Rows.triangulationSeparatorsSpec) :=
 OpenClaim.holds_of_wide 3 Tryz.f3 rfl rfl rfl rfl rfl rfl rfl ⟨rfl,rfl,rfl,rfl,rfl⟩ rfl rfl rfl rfl rfl (by kernel_rfl) Tryz.func3 joined
  (of_decide_eq_true (by kernel_rfl)) (by unfold Func.isWrapper;first | (rw [if_pos (by decide +kernel)];kernel_rfl) | (rw [if_neg (by decide +kernel)];exact ⟨rfl,rfl⟩))
  (fun os started H enc _=>lifted os started H enc)
end Go.Proofs.YtmokciekndllpaaGreatDoor.triangulationSeparatorsRow
namespace Go.Proofs.YtmokciekndllpaaGreatDoor
open Go
theorem triangulationSeparators_holds:Rows.TriangulationSeparatorsCardSaid :=
 Claim7.holds_tied_plain_at .later [] [.data] true (true, "4ea48a0faabaef4b59b1cce9920f05029ff3d82c3f215ac36c3bcd021fa08ae2") true
  triangulationSeparatorsRow.over (fun _ h=>by cases h) (by kernel_rfl) (fun _ h=>by cases h) triangulationSeparators_row_tie rfl ⟨rfl,rfl⟩ (by kernel_rfl) rfl
  (fun f fn hf hfn=>by
   obtain rfl:f=3:=Option.some.inj ((show Tryz.prog.funcNamed "palmette/palmettelaw25.TriangulationSeparators" = some 3 by kernel_rfl).symm.trans hf) |>.symm
   obtain rfl:fn=Tryz.f3:=(Option.some.inj (Tryz.func3.symm.trans hfn)).symm
   exact ⟨by kernel_rfl,fun j t ht=>by
    rw [Tryz.params3] at ht
    have h3:t=22∨t=5∨t=25:=by
     rcases j with _ | _ | _ | _ | j
     ·simp at ht;simp [ht]
     ·simp at ht;simp [ht]
     ·simp at ht;simp [ht]
     ·simp at ht;simp [ht]
     ·simp at ht
    rcases h3 with rfl | rfl | rfl
    ·exact (show Tryz.prog.wantsStandIn 22=false by kernel_rfl)
    ·exact (show Tryz.prog.wantsStandIn 5=false by kernel_rfl)
    ·exact (show Tryz.prog.wantsStandIn 25=false by kernel_rfl)⟩)
  (by kernel_rfl)
#print axioms triangulationSeparators_holds
end Go.Proofs.YtmokciekndllpaaGreatDoor
