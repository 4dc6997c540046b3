/- Parts of a proof, laid together. Each part says its own conditions. -/
import Derived.Shelf.SlGeneric
import Derived.Shelf.SlIterI.Nil
import Derived.Shelf.SortM.Plain
import Derived.Shelf.SortM.SortNone
import Derived.Ground.GgzProg
import Derived.Ground.SlgmProg
import Derived.Test.YtoacpebmhbkmbaaGreatDoorProg
import Derived.Test.YtoacpebmhbkmbaaGreatDoorT27
import Derived.Test.YtoacpebmhbkmbaaGreatDoorT29
import Derived.Test.YtoacpebmhbkmbaaGreatDoorT30
namespace Go.Proofs
open Go.Shelf
def Tryz.keysA_ren : Go.Shelf.Ren := ⟨fun | 7 => 111 | 10 => 139 | n => n,fun | 23 => 98 | 26 => 3 | 3 => 76 | 28 => 103 | 0 => 0 | 27 => 102 | 33 => 69 | 4 => 4 | n => n,fun | n => n⟩
theorem Tryz.keysA : Go.Proofs.SlLaysZI.n7 Tryz.prog Tryz.keysA_ren := {
 mixed := by kernel_rfl
 f7 := ⟨Tryz.f111.name,by decide,Tryz.func111.trans (congrArg some (by kernel_rfl))⟩
 f10 := ⟨Tryz.f139.name,by decide,Tryz.func139.trans (congrArg some (by kernel_rfl))⟩
 t0 := Tryz.underlying0
 a0 := Tryz.isAgg0
 z0 := Tryz.sizeOf0
 v0 := Tryz.zeroValue0
 t4 := Tryz.underlying4
 a4 := Tryz.isAgg4
 z4 := Tryz.sizeOf4
 v4 := Tryz.zeroValue4
 t23 := Tryz.underlying98
 a23 := Tryz.isAgg98
 z23 := Tryz.sizeOf98
 v23 := Tryz.zeroValue98
 t26 := Tryz.underlying3
 a26 := Tryz.isAgg3
 z26 := Tryz.sizeOf3
 v26 := Tryz.zeroValue3
 t27 := Tryz.underlying102
 a27 := Tryz.isAgg102
 z27 := Tryz.sizeOf102
 v27 := Tryz.zeroValue102
 t28 := Tryz.underlying103
 a28 := Tryz.isAgg103
 z28 := Tryz.sizeOf103
 v28 := Tryz.zeroValue103
 t33 := Tryz.underlying69
 a33 := Tryz.isAgg69
 z33 := Tryz.sizeOf69
 v33 := Tryz.zeroValue69 }
def Tryz.sortedA_ren : Go.Shelf.Ren := ⟨fun | 6 => 65 | 8 => 81 | 9 => 114 | 11 => 131 | 13 => 123 | 12 => 141 | 23 => 152 | 24 => 153 | 14 => 158 | 15 => 159 | 16 => 160 | 17 => 161 | 18 => 162 | 19 => 163 | 20 => 164 | 21 => 165 | 22 => 166 | 25 => 181 | 26 => 169 | 27 => 170 | 28 => 182 | 29 => 183 | 30 => 124 | 31 => 188 | n => n,fun | 26 => 3 | 28 => 103 | 24 => 30 | 0 => 0 | 3 => 3 | 37 => 166 | 48 => 194 | 50 => 74 | 4 => 4 | 40 => 188 | 39 => 187 | 45 => 154 | 5 => 5 | 9 => 9 | 51 => 207 | 55 => 211 | 57 => 220 | 58 => 195 | 33 => 69 | n => n,fun | n => n⟩
theorem Tryz.sortedA : Go.Proofs.SlLaysZI.n6 Tryz.prog Tryz.sortedA_ren := {
 mixed := by kernel_rfl
 f6 := ⟨Tryz.f65.name,by decide,Tryz.func65.trans (congrArg some (by kernel_rfl))⟩
 f8 := ⟨Tryz.f81.name,by decide,Tryz.func81.trans (congrArg some (by kernel_rfl))⟩
 f11 := ⟨Tryz.f131.name,by decide,Tryz.func131.trans (congrArg some (by kernel_rfl))⟩
 t0 := Tryz.underlying0
 a0 := Tryz.isAgg0
 z0 := Tryz.sizeOf0
 v0 := Tryz.zeroValue0
 t24 := Tryz.underlying30
 a24 := Tryz.isAgg30
 z24 := Tryz.sizeOf30
 v24 := Tryz.zeroValue30
 t26 := Tryz.underlying3
 a26 := Tryz.isAgg3
 z26 := Tryz.sizeOf3
 v26 := Tryz.zeroValue3
 t28 := Tryz.underlying103
 a28 := Tryz.isAgg103
 z28 := Tryz.sizeOf103
 v28 := Tryz.zeroValue103
 i26 := by kernel_rfl }
def Tryz.sortA_ren : Go.Shelf.Ren := ⟨fun | 5 => 114 | 8 => 123 | 7 => 141 | 19 => 152 | 20 => 153 | 10 => 158 | 11 => 159 | 12 => 160 | 13 => 161 | 14 => 162 | 15 => 163 | 16 => 164 | 17 => 165 | 18 => 166 | 30 => 181 | 31 => 169 | 32 => 170 | 33 => 182 | 34 => 183 | 35 => 124 | 40 => 188 | n => n,fun | 23 => 30 | 25 => 3 | 3 => 3 | 32 => 166 | 22 => 30 | 0 => 0 | 44 => 194 | 46 => 74 | 4 => 4 | 36 => 188 | 35 => 187 | 41 => 154 | 5 => 5 | 9 => 9 | 53 => 207 | 57 => 211 | 63 => 220 | 64 => 195 | n => n,fun | n => n⟩
theorem Tryz.sortA : Go.Proofs.SlLaysM.n5 Tryz.prog Tryz.sortA_ren := {
 mixed := by kernel_rfl
 f5 := ⟨Tryz.f114.name,by decide,Tryz.func114.trans (congrArg some (by kernel_rfl))⟩
 f7 := ⟨Tryz.f141.name,by decide,Tryz.func141.trans (congrArg some (by kernel_rfl))⟩
 f8 := Tryz.func123.trans (congrArg some (by kernel_rfl))
 f10 := ⟨Tryz.f158.name,by decide,Tryz.func158.trans (congrArg some (by kernel_rfl))⟩
 f11 := ⟨Tryz.f159.name,by decide,Tryz.func159.trans (congrArg some (by kernel_rfl))⟩
 f12 := ⟨Tryz.f160.name,by decide,Tryz.func160.trans (congrArg some (by kernel_rfl))⟩
 f13 := ⟨Tryz.f161.name,by decide,Tryz.func161.trans (congrArg some (by kernel_rfl))⟩
 f14 := ⟨Tryz.f162.name,by decide,Tryz.func162.trans (congrArg some (by kernel_rfl))⟩
 f15 := ⟨Tryz.f163.name,by decide,Tryz.func163.trans (congrArg some (by kernel_rfl))⟩
 f16 := ⟨Tryz.f164.name,by decide,Tryz.func164.trans (congrArg some (by kernel_rfl))⟩
 f17 := ⟨Tryz.f165.name,by decide,Tryz.func165.trans (congrArg some (by kernel_rfl))⟩
 f18 := ⟨Tryz.f166.name,by decide,Tryz.func166.trans (congrArg some (by kernel_rfl))⟩
 f19 := Tryz.func152.trans (congrArg some (by kernel_rfl))
 f20 := Tryz.func153.trans (congrArg some (by kernel_rfl))
 f30 := ⟨Tryz.f181.name,by decide,Tryz.func181.trans (congrArg some (by kernel_rfl))⟩
 f31 := Tryz.func169.trans (congrArg some (by kernel_rfl))
 f32 := Tryz.func170.trans (congrArg some (by kernel_rfl))
 f33 := ⟨Tryz.f182.name,by decide,Tryz.func182.trans (congrArg some (by kernel_rfl))⟩
 f34 := ⟨Tryz.f183.name,by decide,Tryz.func183.trans (congrArg some (by kernel_rfl))⟩
 f35 := ⟨Tryz.f124.name,by decide,Tryz.func124.trans (congrArg some (by kernel_rfl))⟩
 f40 := ⟨Tryz.f188.name,by decide,Tryz.func188.trans (congrArg some (by kernel_rfl))⟩
 t0 := Tryz.underlying0
 a0 := Tryz.isAgg0
 z0 := Tryz.sizeOf0
 v0 := Tryz.zeroValue0
 t3 := Tryz.underlying3
 a3 := Tryz.isAgg3
 z3 := Tryz.sizeOf3
 v3 := Tryz.zeroValue3
 t4 := Tryz.underlying4
 a4 := Tryz.isAgg4
 z4 := Tryz.sizeOf4
 v4 := Tryz.zeroValue4
 t5 := Tryz.underlying5
 a5 := Tryz.isAgg5
 z5 := Tryz.sizeOf5
 v5 := Tryz.zeroValue5
 t9 := Tryz.underlying9
 a9 := Tryz.isAgg9
 z9 := Tryz.sizeOf9
 v9 := Tryz.zeroValue9
 t22 := Tryz.underlying30
 a22 := Tryz.isAgg30
 z22 := Tryz.sizeOf30
 v22 := Tryz.zeroValue30
 t23 := Tryz.underlying30
 a23 := Tryz.isAgg30
 z23 := Tryz.sizeOf30
 v23 := Tryz.zeroValue30
 t25 := Tryz.underlying3
 a25 := Tryz.isAgg3
 z25 := Tryz.sizeOf3
 v25 := Tryz.zeroValue3
 t32 := Tryz.underlying166
 a32 := Tryz.isAgg166
 z32 := Tryz.sizeOf166
 v32 := Tryz.zeroValue166
 t35 := Tryz.underlying187
 a35 := Tryz.isAgg187
 z35 := Tryz.sizeOf187
 v35 := Tryz.zeroValue187
 t36 := Tryz.underlying188
 a36 := Tryz.isAgg188
 z36 := Tryz.sizeOf188
 v36 := Tryz.zeroValue188
 t41 := Tryz.underlying154
 a41 := Tryz.isAgg154
 z41 := Tryz.sizeOf154
 v41 := Tryz.zeroValue154
 t44 := Tryz.underlying194
 a44 := Tryz.isAgg194
 z44 := Tryz.sizeOf194
 v44 := Tryz.zeroValue194
 t46 := Tryz.underlying74
 a46 := Tryz.isAgg74
 z46 := Tryz.sizeOf74
 v46 := Tryz.zeroValue74
 t53 := Tryz.underlying207
 a53 := Tryz.isAgg207
 z53 := Tryz.sizeOf207
 v53 := Tryz.zeroValue207
 t57 := Tryz.underlying211
 a57 := Tryz.isAgg211
 z57 := Tryz.sizeOf211
 v57 := Tryz.zeroValue211
 t63 := Tryz.underlying220
 a63 := Tryz.isAgg220
 z63 := Tryz.sizeOf220
 v63 := Tryz.zeroValue220
 t64 := Tryz.underlying195
 a64 := Tryz.isAgg195
 z64 := Tryz.sizeOf195
 v64 := Tryz.zeroValue195 }
end Go.Proofs
namespace Go.Proofs.YtoacpebmhbkmbaaGreatDoor
open Go Go.RowKit Go.Maps Go.Sort Go.Shelf
open Go.WideElems (Fit rd rg pl rd_mk rd_key rg_of)
theorem encZ_flat : ∀ L : List Int, L.map encZ = L.flatMap encI
  | [] => rfl
  | x :: L => by rw [List.map_cons, List.flatMap_cons, encZ_flat L]; rfl
theorem msize (l : List (Lit × DataW Unit)) : Maps.size (DataW.map l) = l.length := rfl
theorem ikeys (l : List (Lit × DataW Unit)) : intKeys (DataW.map l) = l.map (fun p => Go.intOf p.1) := rfl
def rAny (_ : Value) : Option (DataW Unit × List MemPlace) := some (.lit (.bool true), [])
theorem MapIs.owns {w : World} {b : Nat} {m : List (Int × Nat)} (h : MapIs ekV evS i64ok w b m) (hl : m.length ≤ 100000) :
    ∃ D : DataW Unit, w.ownsMap Tryz.prog 3 rAny b m.length D ∧ (intKeys D).Perm (m.map (·.1)) ∧ Maps.size D ≤ m.length := by
  obtain ⟨es, clock, h1, h2, h3, h4⟩ := h
  have hsz : es.size = m.length := by
    have := congrArg List.length h3
    simpa using this
  have hkey : ∀ x ∈ es.toList, ∃ a : Int, x.key = ekV a ∧ keyOf Tryz.prog 3 x.key = some (.int .i64 a) := fun x hx => by
    have hm : kv x ∈ es.toList.map kv := List.mem_map.2 ⟨x, hx, rfl⟩
    rw [h3] at hm
    obtain ⟨p, hp, e⟩ := List.mem_map.1 hm
    have ek : x.key = ekV p.1 := (congrArg Prod.fst e).symm
    obtain ⟨l, hl⟩ := keV.reads p.1 (h4 p hp)
    obtain ⟨y, hy, hl2, _⟩ := Maps.keyOf_i64 Tryz.underlying3 hl
    have : p.1 = y := by
      unfold ekV at hy
      injection hy
    refine ⟨p.1, ek, ?_⟩
    rw [ek, hl, hl2, this]
  have hrd : ∀ x ∈ es.toList, ∃ a : Int, x.key = ekV a ∧ rd Tryz.prog 3 rAny x = some (.int .i64 a, .lit (.bool true)) := fun x hx => by
    obtain ⟨a, h5, h6⟩ := hkey x hx
    obtain ⟨key, val, born⟩ := x
    have h7 : keyOf Tryz.prog 3 key = some (.int .i64 a) := h6
    exact ⟨a, h5, rd_mk (yv := (DataW.lit (.bool true), [])) h7 rfl⟩
  have hfit : Fit Tryz.prog 3 rAny es clock := ⟨by rw [hsz]; unfold maxLen; omega, h2, fun x hx => by obtain ⟨a, _, h6⟩ := hrd x hx; exact ⟨_, h6⟩⟩
  have hown : w.ownsMap Tryz.prog 3 rAny b m.length (.map ((es.toList.map (rg Tryz.prog 3 rAny)).foldr DataW.insert [])) := ⟨es, clock, h1, hfit, by omega, rfl⟩
  have hG : ∀ x ∈ es.toList, ∃ a : Int, x.key = ekV a ∧ rg Tryz.prog 3 rAny x = (.int .i64 a, .lit (.bool true)) := fun x hx => by
    obtain ⟨a, h5, h6⟩ := hrd x hx
    exact ⟨a, h5, rg_of h6⟩
  have hperm := Go.WideShapes.sorted_perm (es.toList.map (rg Tryz.prog 3 rAny))
  refine ⟨_, hown, ?_, ?_⟩
  · generalize rg Tryz.prog 3 rAny = G at hG hperm
    rw [ikeys]
    refine (hperm.map _).trans (List.Perm.of_eq ?_)
    have e1 : m.map (·.1) = es.toList.map (fun x => Go.RowKit.intOf x.key) := by
      have h7 : (es.toList.map kv).map (fun p => Go.RowKit.intOf p.1) = m.map (·.1) := by
        rw [h3, List.map_map]
        rfl
      rw [← h7, List.map_map]
      rfl
    rw [e1, List.map_map]
    refine List.map_congr_left fun x hx => ?_
    obtain ⟨a, h5, h6⟩ := hG x hx
    rw [Function.comp_apply, h6, h5]
    rfl
  · generalize rg Tryz.prog 3 rAny = G at hperm
    rw [msize, hperm.length_eq, List.length_map, Array.length_toList, hsz]
    exact Nat.le_refl _
theorem sortsA (n : Nat) : AnyZI.SortsIn Tryz.prog Tryz.sortedA_ren Fence.wide n :=
  ⟨fun blk off cap ss W hH hblk hsz => callsIn_wide.2 (AnyM.slices_Sort_int Tryz.sortA blk off cap ss W hH hblk hsz),
   fun p cap W => callsIn_wide.2 (AnyM.slices_Sort_int_none Tryz.sortA p cap W)⟩
set_option maxHeartbeats 4000000 in
theorem left_any (b : Nat) (m : List (Int × Nat)) (L : List Int) (w : World) (hM : MapIs ekV evS i64ok w b m) (hp : (m.map (·.1)).Perm L) (hs : L.Pairwise (· < ·)) (hl : L.length ≤ 100000) :
    Calls Tryz.prog 56 #[.map (some b)] w (OwL w L) := by
  have hml : m.length = L.length := by
    have := hp.length_eq
    rwa [List.length_map] at this
  obtain ⟨D0, hown, hk, hsz⟩ := hM.owns (by omega)
  refine (callsIn_wide (n := 6)).1 ?_
  have hbl := hown.lt
  have hseq : SeqGives Fence.wide 2 Tryz.prog 139 #[.pointer (some ⟨w.heap.size, 0, none⟩)] encZ (fun ss => ss.Perm (intKeys D0)) (Maps.size D0) (w.alloc (.cells #[.map (some b)] 98)) :=
    AnyZI.keys_gives (ρ := Tryz.keysA_ren) { Tryz.keysA with } Fence.wide _ trivial rfl (by omega) w.heap.size b m.length D0 _ (by simp) (by simp) (by
      obtain ⟨es, clock, hb, Ft, hs, hD⟩ := hown
      exact ⟨es, clock, (Below.heap_alloc _ _ b hbl).trans hb, Ft, hs, hD⟩)
  have cK : ∀ mb W, CallsIn Fence.wide 5 Tryz.prog 111 #[.map mb] W fun e w' => e = .returned (.func (.func 139) #[] #[.pointer (some ⟨W.heap.size, 0, none⟩)]) ∧ w' = W.alloc (.cells #[.map mb] 98) := fun mb W => AnyZI.keys_in Tryz.keysA Fence.wide 5 trivial rfl mb W
  have cS := AnyZI.sorted_in Tryz.sortedA Fence.wide 5 trivial trivial trivial trivial rfl (by omega) (sortsA _) (enters_of Tryz.func114 (by kernel_rfl) rfl) 139 #[.pointer (some ⟨w.heap.size, 0, none⟩)] trivial (enters_of Tryz.func139 (by kernel_rfl) rfl) _ _ (by unfold maxLen; omega) (by omega) _ hseq
  change CallsIn _ _ Tryz.prog 65 _ _ _ at cS
  have hfK : Fence.wide.fn 111 := trivial
  have hfS : Fence.wide.fn 65 := trivial
  have hk' := hide hk
  have hp' := hide hp
  have hs' := hide hs
  clear hk hp hs hsz hml hl hown hM hseq
  refine callsIn_of_wp Tryz.func56 rfl trivial ?_ rfl
  simp only [Tryz.ntmps56, List.size_toArray, List.length_cons, List.length_nil, Nat.reduceAdd, Nat.reduceSub, Array.replicate_succ, Array.replicate_zero, List.push_toArray, List.append_toArray, List.nil_append, List.cons_append]
  gi_wp2_with (first
    | (gi_at_call 111; refine (cK _ _).mono ?_; rintro e w' ⟨rfl, rfl⟩)
    | (gi_at_call 65; refine cS.mono ?_; rintro e w' ⟨v, ss, rfl, hS, hrow, hnil, hb⟩))
  go_ret
  have hso : ss.mergeSort (fun x y => decide (x ≤ y)) = L := sort_self (hS.trans ((unhide hk').trans (unhide hp'))) (unhide hs')
  have hlen : ss.length = L.length := (hS.trans ((unhide hk').trans (unhide hp'))).length_eq
  rw [hso, encZ_flat] at hrow
  obtain ⟨A, c, rfl⟩ := own_slice hrow
  exact OwL.mk hlen (ownsRow_base_a hrow (by simp)) (((Below.refl _ w).alloc (Nat.le_refl _) _).trans (hb.mono (by simp)))
end Go.Proofs.YtoacpebmhbkmbaaGreatDoor
namespace Go.Proofs.YtoacpebmhbkmbaaGreatDoor
open Go Go.RowKit Go.Shelf
attribute [local go_sem] qUpon lUpon
attribute [local irreducible] wpO wpX wpQL
theorem Rep.ok {m : List (Int × Nat)} {L : List Int} {near : Int → Int → Bool} (h : Rep m L near) : ∀ p ∈ m,i64ok p.1 := fun p hp => okK (h.rng p.1 (h.mem.1 (List.mem_map.2 ⟨p,hp,rfl⟩)))
theorem Rep.okx {m : List (Int × Nat)} {L : List Int} {near : Int → Int → Bool} (h : Rep m L near) {x : Int} (hx : x ∈ L) : i64ok x := okK (h.rng x hx)
theorem degree_key {mb : Nat} {m : List (Int × Nat)} {L : List Int} {near : Int → Int → Bool} {w : World} (hM : MapIs ekV evS i64ok w mb m) (h : Rep m L near) (S : List Int) (hS : ∀ x ∈ S,x ∈ L) : KeyF (fun x : Int => Value.int .i64 x) (fun x => ((cntF (nrM m x) 1024 : Nat) : Int)) S 57 #[.map (some mb)] #[] w :=
 ⟨Go.Proofs.enters_of Tryz.func57 (by kernel_rfl) rfl,fun W hW x hx args ha => by
  rw [ha]
  exact degree_any mb m x W (hM.ext hW) (h.okx (hS x hx))⟩
theorem Rep.least {m : List (Int × Nat)} {L : List Int} {near : Int → Int → Bool} (h : Rep m L near) {S : List Int} (hS : ∀ x ∈ S,x ∈ L) {y : Int} (hy : LeastIs (fun x => ((cntF (nrM m x) 1024 : Nat) : Int)) S y) : y = leastP (degP near L) S := by
 rw [LeastIs.eq (k := fun x => cntF (nrM m x) 1024) hy]
 exact leastP_congr fun x hx => h.deg (hS x hx)
theorem run_build1X {ρ : Operand → Value} {o : Oper} {x : Operand} {w : World} {z : Int} (ho : o.op = .buildSlice 31 1 #[(0,x)]) (hx : ρ x = .int .i64 z) : (execOp ρ o).run Tryz.prog w = .ok (.value (.slice (some ⟨w.heap.size,0,none⟩) 1 1)) (w.alloc (.cells #[.int .i64 z] 3)) := by
 unfold execOp
 simp only [ho]
 simp [go_sem,hx]
def DgPost (w : World) (z : Int) (xs : List Int) (e : Ending) (w' : World) : Prop := ∃ A c,e = .returned (.tuple #[.int .i64 z, .slice A xs.length c]) ∧ w'.ownsRow w.heap.size 3 1 (.slice A xs.length c) xs.length (xs.flatMap encI) ∧ Ext w w'
theorem DgPost.mk {w w' : World} {z z' : Int} {xs : List Int} {A : Option Addr} {n c : Nat} (hz : z = z') (hn : n = xs.length) (h1 : w'.ownsRow w.heap.size 3 1 (.slice A n c) n (xs.flatMap encI)) (h2 : Ext w w') : DgPost w z' xs (.returned (.tuple #[.int .i64 z, .slice A n c])) w' := ⟨A,c,by rw [hn,hz],by rw [hn] at h1; exact h1,h2⟩
theorem degS_cons (near : Int → Int → Bool) (n : Nat) {L : List Int} (h : L ≠ []) : degS near (n + 1) L = (leastP (degP near L) L,degP near L (leastP (degP near L) L)) :: degS near n (L.erase (leastP (degP near L) L)) := by
 cases L with
 | nil => exact absurd rfl h
 | cons a l => rfl
theorem degS_nil (near : Int → Int → Bool) (n : Nat) : degS near n [] = [] := by cases n <;> rfl
theorem degP_le {m : List (Int × Nat)} {L : List Int} {near : Int → Int → Bool} (h : Rep m L near) (x : Int) : degP near L x ≤ 1024 := by
 unfold degP
 exact Nat.le_trans (List.length_filter_le _ _) h.le
set_option maxRecDepth 100000 in
set_option maxHeartbeats 16000000 in
theorem degeneracy_any (og : Option Addr) (V : List (Int × Thing)) (E : List ((Int × Int) × Thing)) (w : World) (hg : GL w og V E) (hi : GInv V E) (hT : Tab w) :
  Calls Tryz.prog 32 #[.pointer og] w (DgPost w (dgnP (nr0 E) (toL (vS V)).length (toL (vS V))) ((degS (nr0 E) (toL (vS V)).length (toL (vS V))).map (·.1))) := by
 have hg' := hide hg
 have hT' := hide hT
 have hR0 := rep_of hi
 obtain ⟨L0,hL0⟩ : ∃ L0,L0 = toL (vS V) := ⟨_,rfl⟩
 obtain ⟨near,hnear⟩ : ∃ near,near = nr0 E := ⟨_,rfl⟩
 obtain ⟨M0,hM0⟩ : ∃ M0,M0 = m0 E L0 := ⟨_,rfl⟩
 rw [← hL0, ← hnear, ← hM0] at hR0
 rw [← hL0, ← hnear]
 have hMe := hide (show m0 E (toL (vS V)) = M0 by rw [hM0,hL0])
 have hR0' := hide hR0
 clear hg hT hi hL0 hnear hM0 hR0
 obtain ⟨D,hD⟩ : ∃ D,D = degS near L0.length L0 := ⟨_,rfl⟩
 have hz0 := hide (show dgnP near L0.length L0 = D.foldl (fun m p => max m (p.2 : Int)) (-1) by rw [hD]; rfl)
 rw [← hD]
 have hD' := hide hD
 clear hD
 have hP := hide (Sp.new w)
 refine callsIn_wide.1 (callsIn_of_wp_marks (n := 0) Tryz.func32 rfl trivial (wpIn_wide.2 ?_))
 simp only [Tryz.ntmps32,List.size_toArray,List.length_cons,List.length_nil,Nat.reduceAdd,Nat.reduceSub,Array.replicate_succ,Array.replicate_zero,List.push_toArray,List.append_toArray,List.nil_append,List.cons_append]
 try dsimp only
 repeat ((fail_if_success (with_reducible refine wp_reg (id := 1) ?_)); (first | go_values | go_skip | go_step | go_guarded | go_upon | go_in | go_back | fail))
 with_reducible refine wp_reg (id := 1) ?_
 refine wpO_want rfl ?_
 go_simp
 refine wpO_want rfl ?_
 go_simp
 have hca := of_adj og V E w ((unhide hg').ext (unhide hP).extf) ((unhide hT').ext (unhide hP).extf)
 rw [unhide hMe] at hca
 have htl := ((unhide hT').ext (unhide hP).extf).lt
 refine hca.mono ?_
 clear hca
 rintro _ y1 ⟨mb,rfl,hge,hm,hxc⟩
 have htb := hide (show 0 < mb from Nat.lt_of_lt_of_le htl hge)
 refine ⟨_,rfl, ?_⟩
 replace hP : Hid (Sp w [] w [] [] [(98,0, .map (some mb),0,mapXs ekV evS M0)] y1) := hide ((unhide hP).addMap hxc hge hm.raw 98 0)
 clear htl hge hm hxc
 refine wpO_want rfl ?_
 go_simp
 refine wpO_done ?_
 try go_frame
 go_wp2_with fail
 replace hP : Hid (Sp w [] w [] [] [(98,0, .map (some mb),0,mapXs ekV evS M0),(3,1, .slice none 0 0,0,([] : List Int).flatMap encI)] y1) := hide ((unhide hP).nil 3 1)
 obtain ⟨I1_2,hI1_20⟩ : ∃ I : Nat → Act → World → Prop,I = fun fi a' wr => ∃ (m : List (Int × Nat)), ∃ (L : List Int), ∃ (z : Int), ∃ (A6 : Option Addr), ∃ (n6 : Nat), ∃ (c6 : Nat), ∃ (ps : List (Int × Nat)),a'.tmps.size = 32 ∧ a'.tmps.getD 4 undef = .map (some mb) ∧ a'.tmps.getD 5 undef = .int .i64 z ∧ a'.tmps.getD 6 undef = .slice A6 n6 c6 ∧ a'.defers = [] ∧ Rep m L near ∧ D = ps ++ degS near fi L ∧ (z = ps.foldl (fun m p => max m (p.2 : Int)) (-1)) ∧ n6 = ps.length ∧ L.length = fi ∧ n6 + fi ≤ 1024 ∧ Sp w [] w [] [] [(98,0, .map (some mb),0,mapXs ekV evS m),(3,1, .slice A6 n6 c6,n6,(ps.map (·.1)).flatMap encI)] wr := ⟨_,rfl⟩
 have hI1_2 := hide hI1_20
 clear hI1_20
 refine wp_loop_ix I1_2 (L0.length) ?_ ?_
 ·rw [unhide hI1_2]; exact ⟨M0,L0, -1,none,0,0,[],rfl,rfl,rfl,rfl,rfl,unhide hR0',unhide hD',rfl,rfl,rfl,by have := (unhide hR0').le; omega,unhide hP⟩
 ·rintro fi ⟨tm,dfs⟩ wr hrel
  rw [unhide hI1_2] at hrel
  obtain ⟨m,L,z,A6,n6,c6,ps,hsz,e4,e5,e6,hdf,hRr,hDp,hz,hn6,hLf,hnf,hPr⟩ := hrel
  obtain ⟨us,rfl⟩ : ∃ us : Nat → Value,tm = #[us 0,us 1,us 2,us 3,us 4,us 5,us 6,us 7,us 8,us 9,us 10,us 11,us 12,us 13,us 14,us 15,us 16,us 17,us 18,us 19,us 20,us 21,us 22,us 23,us 24,us 25,us 26,us 27,us 28,us 29,us 30,us 31] := ⟨fun i => tm.getD i undef,arr_fn hsz⟩
  have h4 : us 4 = .map (some mb) := e4
  have h5 : us 5 = .int .i64 z := e5
  have h6 : us 6 = .slice A6 n6 c6 := e6
  have hdf2 : dfs = [] := hdf
  subst hdf2
  clear hdf hsz e4 e5 e6
  simp only [h4,h5,h6]
  clear h4 h5 h6
  clear hP hR0' hD'
  have hP := hide hPr
  have hR := hide hRr
  have hDp' := hide hDp
  have hz' := hide hz
  have hn6' := hide hn6
  have hLf' := hide hLf
  have hnf' := hide hnf
  obtain ⟨nL,hnL0⟩ : ∃ nL,nL = L.length := ⟨_,rfl⟩
  have hnL := hide hnL0.symm
  have hml := hide (show m.length = nL by rw [hnL0]; exact hRr.len)
  clear hPr hRr hDp hz hn6 hLf hnf hnL0
  by_cases hl0 : 0 < nL
  ·have hil : (0 : Int) < (nL : Int) := by omega
   have hl0' := hide hl0
   have hne : L ≠ [] := by rintro rfl; have := unhide hnL; simp at this; omega
   obtain ⟨f',hf0⟩ : ∃ f',fi = f' + 1 := ⟨fi - 1,by have := unhide hLf'; have := unhide hnL; omega⟩
   obtain ⟨y,hy⟩ : ∃ y,y = leastP (degP near L) L := ⟨_,rfl⟩
   obtain ⟨dg,hdg⟩ : ∃ dg,dg = degP near L y := ⟨_,rfl⟩
   have hyL := hide (show y ∈ L by rw [hy]; exact leastP_mem _ hne)
   have hDs := hide (show D = (ps ++ [(y,dg)]) ++ degS near f' (L.erase y) by rw [unhide hDp',hf0,degS_cons near f' hne, ← hy, ← hdg,List.append_assoc]; rfl)
   have hlb := hide (show nL ≤ 1024 by have := (unhide hR).le; have := unhide hnL; omega)
   have hdb := hide (show dg ≤ 1024 by rw [hdg]; exact degP_le (unhide hR) y)
   have hyd := hide (show cntF (nrM m y) 1024 = dg by rw [hdg]; exact (unhide hR).deg (unhide hyL))
   have hle := hide (fun (q : Int) (hq : LeastIs (fun x => ((cntF (nrM m x) 1024 : Nat) : Int)) L q) => show q = y by rw [hy]; exact (unhide hR).least (fun _ h => h) hq)
   have hR2 := hide ((unhide hR).away (unhide hyL))
   have hf' := hide hf0
   clear hl0 hne hy hdg hf0
   try dsimp only
   repeat ((fail_if_success (with_reducible refine wp_reg (id := 4) ?_)); (first | go_values | go_skip | go_step | go_guarded | go_upon | go_in | go_back | fail))
   with_reducible refine wp_reg (id := 4) ?_
   refine wpO_want rfl ?_
   go_simp
   refine wpO_val rfl (run_mlen_op Tryz.underlying98 ((unhide hP).map 0 (m := m) (ek := ekV) (ev := evS) (ok := i64ok) rfl ((unhide hR).ok)) rfl rfl) ?_
   rw [unhide hml]
   go_frame
   refine wpO_want rfl ?_
   go_simp
   refine wpO_done ?_
   try go_frame
   try dsimp only
   repeat ((fail_if_success (with_reducible refine wp_reg (id := 5) ?_)); (first | go_values | go_skip | go_step | go_guarded | go_upon | go_in | go_back | fail))
   with_reducible refine wp_reg (id := 5) ?_
   refine wpO_want rfl ?_
   go_simp
   refine wpO_want rfl ?_
   go_simp
   have hca := left_any mb m L wr ((unhide hP).map 0 rfl (unhide hR).ok) (unhide hR).keys (unhide hR).sorted (by have := (unhide hR).le; omega)
   refine hca.mono ?_
   clear hca
   rintro _ y2 ⟨AL,cL,rfl,ho,hxc⟩
   rw [unhide hnL] at ho
   rw [unhide hnL]
   refine ⟨_,rfl, ?_⟩
   replace hP : Hid (Sp w [] w [] [] [(98,0, .map (some mb),0,mapXs ekV evS m),(3,1, .slice A6 n6 c6,n6,(ps.map (·.1)).flatMap encI),(3,1, .slice AL nL cL,nL,L.flatMap encI)] y2) := hide ((unhide hP).addRow hxc ho)
   clear ho hxc
   iterate 2
    refine wpO_want rfl ?_
    go_simp
   refine wpO_want rfl ?_
   go_simp
   have hls := hide (show SlAt encI 1 y2 AL L from own_at (enc := encI) (by have h := (unhide hP).row 2 rfl; rw [← unhide hnL] at h; exact h) (fun _ => rfl))
   have hca := least_any (fun x : Int => Value.int .i64 x) (fun x => ((cntF (nrM m x) 1024 : Nat) : Int)) AL L nL cL 57 #[.map (some mb)] #[] y2 (unhide hls) (unhide hnL).symm (unhide hl0') (by have := unhide hlb; omega) (degree_key ((unhide hP).map 0 rfl (unhide hR).ok) (unhide hR) L (fun _ h => h))
   refine hca.mono ?_
   clear hca hls
   rintro _ y3 ⟨q,hq,rfl,hxc⟩
   obtain rfl := unhide hle q hq
   refine ⟨_,rfl, ?_⟩
   replace hP : Hid (Sp w [] w [] [] [(98,0, .map (some mb),0,mapXs ekV evS m),(3,1, .slice A6 n6 c6,n6,(ps.map (·.1)).flatMap encI),(3,1, .slice AL nL cL,nL,L.flatMap encI)] y3) := hide ((unhide hP).ext hxc)
   clear hq hxc hle
   refine wpO_want rfl ?_
   go_simp
   refine wpO_done ?_
   try go_frame
   try dsimp only
   repeat ((fail_if_success (with_reducible refine wp_reg (id := 6) ?_)); (first | go_values | go_skip | go_step | go_guarded | go_upon | go_in | go_back | fail))
   with_reducible refine wp_reg (id := 6) ?_
   iterate 3
    refine wpO_want rfl ?_
    go_simp
   refine wpO_want rfl ?_
   go_simp
   have hca := degree_any mb m q y3 ((unhide hP).map 0 rfl (unhide hR).ok) ((unhide hR).okx (unhide hyL))
   rw [unhide hyd] at hca
   refine (hca).mono ?_
   rintro _ y4 ⟨rfl,hxc⟩
   clear hca
   refine ⟨_,rfl, ?_⟩
   replace hP : Hid (Sp w [] w [] [] [(98,0, .map (some mb),0,mapXs ekV evS m),(3,1, .slice A6 n6 c6,n6,(ps.map (·.1)).flatMap encI),(3,1, .slice AL nL cL,nL,L.flatMap encI)] y4) := hide ((unhide hP).ext hxc)
   clear hxc
   iterate 2
    refine wpO_want rfl ?_
    go_simp
   refine wpO_done ?_
   try go_frame
   try dsimp only
   repeat ((fail_if_success (with_reducible refine wp_reg (id := 7) ?_)); (first | go_values | go_skip | go_step | go_guarded | go_upon | go_in | go_back | fail))
   with_reducible refine wp_reg (id := 7) ?_
   iterate 2
    refine wpO_want rfl ?_
    go_simp
   refine (unhide hP).build1O 3 #[.int .i64 q] rfl (run_build1X rfl rfl) ?_
   intro bb y5 hQ
   replace hP : Hid (Sp w [] w [] [(bb,3, #[.int .i64 q])] [(98,0, .map (some mb),0,mapXs ekV evS m),(3,1, .slice A6 n6 c6,n6,(ps.map (·.1)).flatMap encI),(3,1, .slice AL nL cL,nL,L.flatMap encI)] y5) := hide hQ
   clear hQ
   go_frame
   refine (unhide hP).ap1O (enc := encI) (T := 3) (ST := 31) 1 (v := .slice A6 n6 c6) (m := n6) (xs := ps.map (·.1)) rfl rfl infoI Tryz.underlying31 one_encI (fun _ => rfl) (by decide) (by decide) rfl q rfl rfl ((unhide hP).get 0 rfl) (by have := unhide hnf'; omega) ?_
   intro A7 cA7 y6 hQ
   replace hP : Hid (Sp w [] w [] [(bb,3, #[.int .i64 q])] [(98,0, .map (some mb),0,mapXs ekV evS m),(3,1, .slice A7 (n6 + 1) cA7,n6 + 1,(ps.map (·.1) ++ [q]).flatMap encI),(3,1, .slice AL nL cL,nL,L.flatMap encI)] y6) := hide hQ
   clear hQ
   try go_frame
   refine wpO_want rfl ?_
   go_simp
   refine wpO_done ?_
   try go_frame
   replace hP : Hid (Sp w [] w [] [] [(98,0, .map (some mb),0,mapXs ekV evS m),(3,1, .slice A7 (n6 + 1) cA7,n6 + 1,(ps.map (·.1) ++ [q]).flatMap encI),(3,1, .slice AL nL cL,nL,L.flatMap encI)] y6) := hide ((unhide hP).sub (List.sublist_append_left _ ([(bb,3, #[.int .i64 q])] : List Cl)) (List.Sublist.refl _))
   try dsimp only
   repeat ((fail_if_success (with_reducible refine wp_reg (id := 8) ?_)); (first | go_values | go_skip | go_step | go_guarded | go_upon | go_in | go_back | fail))
   with_reducible refine wp_reg (id := 8) ?_
   iterate 2
    refine wpO_want rfl ?_
    go_simp
   refine wpO_want rfl ?_
   go_simp
   refine (away_any mb m q y6 ((unhide hP).map 0 rfl (unhide hR).ok) ((unhide hR).okx (unhide hyL)) ((unhide hT').ext (unhide hP).extf) (unhide htb)).mono ?_
   rintro _ y7 ⟨⟨_,rfl⟩,hm,hk⟩
   refine ⟨_,rfl, ?_⟩
   replace hP : Hid (Sp w [] w [] [] [(98,0, .map (some mb),0,mapXs ekV evS (awayM m q)),(3,1, .slice A7 (n6 + 1) cA7,n6 + 1,(ps.map (·.1) ++ [q]).flatMap encI),(3,1, .slice AL nL cL,nL,L.flatMap encI)] y7) := hide ((unhide hP).mapSet 0 rfl hm.raw hk)
   clear hm hk
   refine wpO_done ?_
   try go_frame
   replace hP : Hid (Sp w [] w [] [] [(98,0, .map (some mb),0,mapXs ekV evS (awayM m q)),(3,1, .slice A7 (n6 + 1) cA7,n6 + 1,(ps.map (·.1) ++ [q]).flatMap encI)] y7) := hide ((unhide hP).sub (List.Sublist.refl _) (List.sublist_append_left ([(98,0, .map (some mb),0,mapXs ekV evS (awayM m q)),(3,1, .slice A7 (n6 + 1) cA7,n6 + 1,(ps.map (·.1) ++ [q]).flatMap encI)] : List Rw) _))
   go_wp2_with fail
   refine ⟨f', ?_,by have := unhide hf'; omega⟩
   rw [unhide hI1_2]
   exact ⟨awayM m q,L.erase q,max z dg,A7,n6 + 1,cA7,ps ++ [(q,dg)],(by first | rfl | trivial),(by first | rfl | trivial),(by first | rfl | trivial),(by first | rfl | trivial),(by first | rfl | trivial),unhide hR2,unhide hDs,by rw [List.foldl_append, ← unhide hz']; rfl,by rw [List.length_append, ← unhide hn6']; rfl,by rw [List.length_erase_of_mem (unhide hyL)]; have := unhide hLf'; have := unhide hf'; omega,by have := unhide hnf'; have := unhide hf'; omega,by rw [List.map_append]; exact unhide hP⟩
  ·have hil : ¬ (0 : Int) < (nL : Int) := by omega
   have hLn : L = [] := List.eq_nil_of_length_eq_zero (by have := unhide hnL; omega)
   have hDe := hide (show D = ps by rw [unhide hDp',hLn,degS_nil,List.append_nil])
   clear hl0 hLn
   try dsimp only
   repeat ((fail_if_success (with_reducible refine wp_reg (id := 4) ?_)); (first | go_values | go_skip | go_step | go_guarded | go_upon | go_in | go_back | fail))
   with_reducible refine wp_reg (id := 4) ?_
   refine wpO_want rfl ?_
   go_simp
   refine wpO_val rfl (run_mlen_op Tryz.underlying98 ((unhide hP).map 0 (m := m) (ek := ekV) (ev := evS) (ok := i64ok) rfl ((unhide hR).ok)) rfl rfl) ?_
   rw [unhide hml]
   go_frame
   refine wpO_want rfl ?_
   go_simp
   refine wpO_done ?_
   try go_frame
   try dsimp only
   repeat ((fail_if_success (with_reducible refine wp_reg (id := 9) ?_)); (first | go_values | go_skip | go_step | go_guarded | go_upon | go_in | go_back | fail))
   with_reducible refine wp_reg (id := 9) ?_
   iterate 4
    refine wpO_want rfl ?_
    go_simp
   refine wpO_done ?_
   try go_frame
   go_wp2_with fail
   refine Sp.leaves0 ?_
   exact ⟨_,results_tmp2 (t := 2) (u := 3) rfl _ _ _,DgPost.mk (by rw [unhide hz0,unhide hDe]; exact unhide hz') (by rw [unhide hDe,List.length_map]; exact unhide hn6') (by rw [unhide hDe]; exact (unhide hP).row 1 rfl) (unhide hP).extf⟩
end Go.Proofs.YtoacpebmhbkmbaaGreatDoor
