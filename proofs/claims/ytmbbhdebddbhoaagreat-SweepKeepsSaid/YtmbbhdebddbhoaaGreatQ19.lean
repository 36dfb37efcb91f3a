/- Sha1 -/
import Derived.Test.YtmbbhdebddbhoaaGreatQ5
import Derived.Laws.CopyRow
import Derived.BigRegion
import Derived.OrdersHeld
import Derived.RegionTactic
set_option maxHeartbeats 4000000
set_option maxRecDepth 100000
set_option linter.all false
namespace Go.Proofs.YtmbbhdebddbhoaaGreat
open Tryz
namespace Sha
open Go.RowKit
def Ff(x:Int)(n:Nat):Int:=bits .or .u32 (x / 2 ^ n) (x*2 ^ (32 -n) % 4294967296)
@[irreducible] def AB (l:List Int):Array Value:=(l.map fun x=>Value.int .u32 x).toArray
@[simp] theorem Oz (l:List Int):(AB l).size=l.length:=by unfold AB;simp
theorem MC(l:List Int)(i:Nat)(h:i < l.length):(AB l)[i]?=some (.int .u32 l[i]):=by
 unfold AB;rw[List.getElem?_toArray,Gt,BP h];rfl
theorem ah(l:List Int)(i:Nat)(x:Int):(AB l).setIfInBounds i (.int .u32 x)=AB (l.set i x):=by
 unfold AB;rw[List.map_set,List.setIfInBounds_toArray]
theorem UO(l:List Int):(AB l).all (·.oneCell')=true:=by
 unfold AB;rw[Array.all_eq_true];intro i hi;simp at hi ⊢;rfl
def zeros(n:Nat):List Int:=List.replicate n 0
def be(b:List UInt8)(t:Nat):Int:=
 bits .or .u32 (bits .or .u32 (bits .or .u32 ((b[4*t]?.getD 0).toNat % 4294967296*16777216 % 4294967296) ((b[4*t+1]?.getD 0).toNat % 4294967296*65536 % 4294967296)) ((b[4*t+2]?.getD 0).toNat % 4294967296*256 % 4294967296)) ((b[4*t+3]?.getD 0).toNat % 4294967296)
def sig(x:Int)(i j k:Nat):Int:=bits .xor .u32 (bits .xor .u32 (Ff x i) (Ff x j)) (x / 2 ^ k)
def SE(l:List Int)(t:Nat):Int:=
 (((l.getD (t -16) 0+sig (l.getD (t -15) 0) 7 18 3) % 4294967296+l.getD (t -7) 0) % 4294967296+sig (l.getD (t -2) 0) 17 19 10) % 4294967296
def wsTo(b:List UInt8):Nat→List Int
 |0=>(List.range 16).map (be b)
 |k+1=>wsTo b k++[SE (wsTo b k) (16+k)]
theorem SF(b:List UInt8):∀ k,(wsTo b k).length=16+k
 |0=>by simp[wsTo]
 |k+1=>by simp[wsTo,SF b k];omega
end Sha
section
open Go.RowKit
open Sha
theorem ai(x:Int)(n:Nat)(h0:0 < n)(hn:n < 32)(w:World):
  Calls prog 248 #[.int .u32 x,.int .i64 n] w fun e w'=>e=.returned (.int .u32 (Ff x n))∧Bw w w':=by
 have h1:(n:Int) < 32:=by omega
 have h2:(0:Int) < n:=by omega
 go_enter func248,ntmps248;go_wp2_with fail
 go_quiet (fail)
 go_wp2_with fail;go_ret;exact⟨rfl,DK _ _⟩
theorem kD:(#[.int .u32 0,.int .u32 0,.int .u32 0,.int .u32 0,.int .u32 0,.int .u32 0,.int .u32 0,.int .u32 0,.int .u32 0,.int .u32 0,.int .u32 0,.int .u32 0,.int .u32 0,.int .u32 0,.int .u32 0,.int .u32 0,.int .u32 0,.int .u32 0,.int .u32 0,.int .u32 0,.int .u32 0,.int .u32 0,.int .u32 0,.int .u32 0,.int .u32 0,.int .u32 0,.int .u32 0,.int .u32 0,.int .u32 0,.int .u32 0,.int .u32 0,.int .u32 0,.int .u32 0,.int .u32 0,.int .u32 0,.int .u32 0,.int .u32 0,.int .u32 0,.int .u32 0,.int .u32 0,.int .u32 0,.int .u32 0,.int .u32 0,.int .u32 0,.int .u32 0,.int .u32 0,.int .u32 0,.int .u32 0,.int .u32 0,.int .u32 0,.int .u32 0,.int .u32 0,.int .u32 0,.int .u32 0,.int .u32 0,.int .u32 0,.int .u32 0,.int .u32 0,.int .u32 0,.int .u32 0,.int .u32 0,.int .u32 0,.int .u32 0,.int .u32 0]:Array Value)=AB (zeros 64):=by
 unfold AB zeros;rfl
theorem ajy:(prog.info? 309).map (·.size)=some 64:=by kernel_rfl
theorem X8(l:List Int)(h:l.length=64):(prog.info? 309).map (·.size)=some (AB l).size:=by rw[Oz,h];exact ajy
def NG(b:List UInt8)(k:Nat):List Int:=(List.range k).map (be b)++zeros (64 -k)
theorem UQ(b:List UInt8)(k:Nat)(h:k≤64):(NG b k).length=64:=by unfold NG zeros;simp;omega
theorem kE(l:List Int)(z:Nat)(x:Int):(l++zeros (z+1)).set l.length x=(l++[x])++zeros z:=by
 unfold zeros;rw[List.set_append_right _ _ (Ab _),Nat.sub_self,List.replicate_succ,List.set_cons_zero,Cw];rfl
theorem yR(b:List UInt8)(k:Nat)(h:k < 64):(NG b k).set k (be b k)=NG b (k+1):=by
 unfold NG;have e:=kE ((List.range k).map (be b)) (64 -(k+1)) (be b k);rw[BQ,List.length_range,show 64 -(k+1)+1=64 -k by omega] at e;rw[e,List.range_succ,C8];rfl
theorem QZ(b:List UInt8)(j:Nat)(hj:j < b.length)(i:Int)(hi:i=(j:Int))(W:World):(Instr.index 9 (.string (bs b)) (.int .i64 i)).run prog W=.ok (.int .u8 ((b.getD j 0).toNat:Int)) W:=by
 subst hi;rw[run_index_string (P:=prog) (w:=W) 9 (bs b) .i64 _ underlying9,dif_pos ⟨by omega,by rw[ajz];omega⟩];simp[FK,hj]
theorem ajA(b:List UInt8)(hb:b.length=64)(w:World):
  Calls prog 246 #[.string (bs b)] w fun e w'=>e=.returned (.agg (AB (wsTo b 48)))∧Bw w w':=by
 go_enter func246,ntmps246;go_wp2_with fail;rw[kD]
 go_loopw [7] (fun i wr=>∃ k:Nat,k≤16∧i=.int .i64 k∧Bw w wr∧wr.heap[w.heap.size]?=some (.cells (AB (NG b k)) 309)) (fun i _=>16 -(intOf i).toNat)
 case atStart=>exact⟨0,by omega,rfl,(Ad _ _).alloc (Ab _) _,Aq _ _⟩
 case round=>
  obtain⟨k,hk,rfl,hbw,ast⟩:=hrel;have HB:=Hi hbw;have HR:=Hi ast;by_cases hlt:k < 16
  ·have atE:wr.cell? ⟨w.heap.size,k,none⟩=some (.int .u32 ((NG b k)[k]'(by rw[UQ _ _ (by omega)];omega))):=by
    rw[AY _ _ _ _ _ _ ast,MC _ _ (by rw[UQ _ _ (by omega)];omega)]
   have hfz:=Cb _ _ k _ _ ast;generalize (NG b k)[k]'(by rw[UQ _ _ (by omega)];omega)=x0 at atE;have i1:=QZ b (4*k) (by omega) (4*(k:Int)) (by omega);have i2:=QZ b (4*k+1) (by omega) (4*(k:Int)+1) (by omega);have i3:=QZ b (4*k+2) (by omega) (4*(k:Int)+2) (by omega);have i4:=QZ b (4*k+3) (by omega) (4*(k:Int)+3) (by omega);clear hbw ast;go_wp2_with fail;go_region;go_wp2_with fail;go_roundw
   case rel=>exact⟨k+1,by omega,by go_num,((HB.setCell (p:=⟨w.heap.size,k,none⟩) (Ab _) _).drew),by
    have h:=Bh wr w.heap.size k _ _ (.int .u32 (be b k)) HR;rw[ah,yR b k (by omega)] at h;exact h⟩
   case measure=>simp[intOf];omega
  ·obtain rfl:k=16:=(by omega);clear hbw ast;go_wp2_with fail
   go_loopw [4] (fun i wr=>∃ k:Nat,k≤48∧i=.int .i64 ((16+k:Nat):Int)∧Bw w wr∧wr.heap[w.heap.size]?=some (.cells (AB (wsTo b k++zeros (48 -k))) 309)) (fun i _=>64 -(intOf i).toNat)
   case atStart=>exact⟨0,by omega,rfl,HB,HR⟩
   case round=>
    clear HB HR;obtain⟨k,hk,rfl,hbw,ast⟩:=hrel;have HB:=Hi hbw;have HR:=Hi ast;clear hbw ast;by_cases hlt:k < 48
    ·have hlen:=SF b k
     have KP:=Hi (fun(V:World) (h:V.heap[w.heap.size]?=some (.cells (AB (wsTo b k++zeros (48 -k))) 309))=>(show(∀ j,j < 16+k→V.cell? ⟨w.heap.size,j,none⟩=some (.int .u32 ((wsTo b k).getD j 0)))∧(∃ v0,V.cell? ⟨w.heap.size,16+k,none⟩=some v0)∧V.frozen? ⟨w.heap.size,16+k,none⟩=false from by
      have hl:(wsTo b k++zeros (48 -k)).length=64:=(by rw[Aj,hlen];unfold zeros;simp;omega);refine⟨fun j hj=>?_,⟨_,(AY _ _ _ _ _ _ h).trans (MC _ _ (by omega))⟩,Cb _ _ _ _ _ h⟩;rw[AY _ _ _ _ _ _ h,MC _ _ (by omega),O3 (by omega),FK,BP (by omega)];rfl))
     have HST:=Hi (show(wsTo b k++zeros (48 -k)).set (16+k) (SE (wsTo b k) (16+k))=wsTo b (k+1)++zeros (48 -(k+1)) from by
      have e:=kE (wsTo b k) (48 -(k+1)) (SE (wsTo b k) (16+k));rw[hlen,show 48 -(k+1)+1=48 -k by omega] at e;exact e)
     unfold SE at HST;obtain⟨t,ht⟩:=ex (16+k);obtain⟨G8,h16⟩:=ex (t -16);obtain⟨LJ,X9⟩:=ex (t -15);obtain⟨j7,h7⟩:=ex (t -7);obtain⟨j2,h2⟩:=ex (t -2);rw[ht] at KP HST ⊢;rw[h16,X9,h7,h2] at HST;have e16:(t:Int) -16=(G8:Int):=(by omega);have e15:(t:Int) -15=(LJ:Int):=(by omega);have e7:(t:Int) -7=(j7:Int):=(by omega);have e2:(t:Int) -2=(j2:Int):=(by omega);have b0:(t:Int) < 64:=(by omega);have b16:(G8:Int) < 64:=(by omega);have b15:(LJ:Int) < 64:=(by omega);have b7:(j7:Int) < 64:=(by omega);have b2:(j2:Int) < 64:=(by omega);have Mm:=Hi (show G8 < t∧LJ < t∧j7 < t∧j2 < t∧t+1=16+(k+1)∧k < 48 from by omega);obtain⟨hc,⟨v0,hcz⟩,hfz⟩:=KP _ HR.out;have c15:=hc _ Mm.2.1;have c2:=hc _ Mm.2.2.2.1;clear hc hlen ht h16 X9 h7 h2 hlt hk;obtain⟨PK,ayb⟩:=ex ((wsTo b k).getD G8 0);obtain⟨OA,Xa⟩:=ex ((wsTo b k).getD LJ 0);obtain⟨x7,hx7⟩:=ex ((wsTo b k).getD j7 0);obtain⟨x2,hx2⟩:=ex ((wsTo b k).getD j2 0);rw[Xa] at c15 HST;rw[hx2] at c2 HST;rw[ayb,hx7] at HST;have HX:=Hi (BD ayb hx7);clear ayb Xa hx7 hx2;go_wp2_with fail
     go_quiet (fail)
     have UR:=Hi (fun(V:World) (hb:Bw wr V)=>(hb.block w.heap.size (Ae HR)).trans HR);have Gn:=Hi (fun(V:World) (hb:Bw wr V)=>(show V.cell? ⟨w.heap.size,G8,none⟩=some (.int .u32 PK)∧V.cell? ⟨w.heap.size,j7,none⟩=some (.int .u32 x7) from⟨by rw[(KP V (UR V hb)).1 G8 Mm.1,HX.1],by rw[(KP V (UR V hb)).1 j7 Mm.2.2.1,HX.2]⟩))
     have Gy:=Hi (fun(V:World) (v:Value) (hb:Bw wr V)=>(show(V.setCell ⟨w.heap.size,t,none⟩ v).cell? ⟨w.heap.size,G8,none⟩=some (.int .u32 PK)∧(V.setCell ⟨w.heap.size,t,none⟩ v).cell? ⟨w.heap.size,j7,none⟩=some (.int .u32 x7) from by
      have h1:=Mm.out;have h2:=Gn V hb;rw[World.cell?_setCell_other (w:=V) (a:=⟨w.heap.size,t,none⟩) (b:=⟨w.heap.size,G8,none⟩) (v:=v) (by intro e;injection e with _ e2;omega),World.cell?_setCell_other (w:=V) (a:=⟨w.heap.size,t,none⟩) (b:=⟨w.heap.size,j7,none⟩) (v:=v) (by intro e;injection e with _ e2;omega)];exact h2))
     have HB0:=Hi (show Bw wr (wr.drewN nq) from DK _ _);have HB1:=Hi (HB0.trans ((Ad _ (wr.drewN nq)).drew));clear hcz hfz c15 c2;go_wp2_with fail;have p16:(0:Int)≤(G8:Int):=(by omega);have p7:(0:Int)≤(j7:Int):=(by omega);have hxa:∀ W,(Instr.indexAt 309 (.pointer (some ⟨w.heap.size,0,none⟩)) (.int .i64 (G8:Int))).run prog W=.ok (.pointer (some ⟨w.heap.size,G8,none⟩)) W:=fun W=>by go_simp
     have hxb:∀ W,(Instr.indexAt 309 (.pointer (some ⟨w.heap.size,0,none⟩)) (.int .i64 ((t:Int) -16))).run prog W=.ok (.pointer (some ⟨w.heap.size,G8,none⟩)) W:=fun W=>by go_simp
     have hya:∀ W,(Instr.indexAt 309 (.pointer (some ⟨w.heap.size,0,none⟩)) (.int .i64 (j7:Int))).run prog W=.ok (.pointer (some ⟨w.heap.size,j7,none⟩)) W:=fun W=>by go_simp
     have hyb:∀ W,(Instr.indexAt 309 (.pointer (some ⟨w.heap.size,0,none⟩)) (.int .i64 ((t:Int) -7))).run prog W=.ok (.pointer (some ⟨w.heap.size,j7,none⟩)) W:=fun W=>by go_simp
     have aCC:IntKind.i64.wrap (G8:Int)=(G8:Int):=(by rw[IntKind.wrap];simp[IntKind.bits,IntKind.signed];omega);have hw7:IntKind.i64.wrap (j7:Int)=(j7:Int):=by rw[IntKind.wrap];simp[IntKind.bits,IntKind.signed];omega
     go_region_held3 (fun V=>V.cell? ⟨w.heap.size,G8,none⟩=some (.int .u32 PK)∧V.cell? ⟨w.heap.size,j7,none⟩=some (.int .u32 x7))
      (first|exact Gy _ _ NH|exact Gn _ NH|exact Gn _ EB|exact Gn _ GG|exact Gn _ Ag|exact Gn _ HB1|exact Gn _ HB0)
      (first
       |(go_at_call 248;refine(ai x2 19 (by decide) (by decide) wD).mono ?_;rintro e wE ⟨rfl,hb⟩;have NH:=Hi (EB.trans (hb.mono EB.size));clear hb;obtain⟨_,⟨vz,hcz⟩,hfz⟩:=KP _ (UR _ NH))
       |(go_at_call 248;refine(ai x2 17 (by decide) (by decide) wC).mono ?_;rintro e wD ⟨rfl,hb⟩;have EB:=Hi (GG.trans (hb.mono GG.size));clear hb)
       |(go_at_call 248;refine(ai OA 18 (by decide) (by decide) wA).mono ?_;rintro e wC ⟨rfl,hb⟩;have GG:=Hi (Ag.trans (hb.mono Ag.size));clear hb)
       |(go_at_call 248;refine(ai OA 7 (by decide) (by decide) _).mono ?_;rintro e wA ⟨rfl,hb⟩;have Ag:=Hi (HB1.trans (hb.mono HB1.size));clear hb))
     go_wp2_with fail;refine⟨?_,?measure⟩
     ·repeat apply Exists.intro
      refine⟨?rel,rfl⟩
      case rel=>exact⟨k+1,by have:=Mm.out;omega,by have:=Mm.2.2.2.2.1;go_num,((HB.trans (NH.mono HB.size)).setCell (p:=⟨w.heap.size,t,none⟩) (Ab _) _),by
       have h:=Bh wE w.heap.size t _ _ (.int .u32 ((((PK+sig OA 7 18 3) % 4294967296+x7) % 4294967296+sig x2 17 19 10) % 4294967296)) (UR _ NH);rw[ah,HST.out] at h;exact h⟩
     show 64 -((t:Int)+1).toNat < 64 -(t:Int).toNat
     omega
    ·obtain rfl:k=48:=(by omega);have hsz:=X8 (wsTo b 48) (SF b 48);have Db:=Hi hsz
     have HR2:=Hi (show wr.heap[w.heap.size]?=some (.cells (AB (wsTo b 48)) 309) from by
      have h:=HR.out;rw[show 48 -48=0 from rfl,show zeros 0=[] from rfl,E8] at h;exact h)
     have aj:=Hi (UO (wsTo b 48));clear hsz HR;obtain⟨l,hl⟩:=ex (wsTo b 48);rw[hl] at Db HR2 aj;have HL:=Hi hl;clear hl;have hzz:∃ z,w.heap.size=z:=⟨_,rfl⟩;obtain⟨z,hz⟩:=hzz;rw[hz] at HR2 ⊢;clear hz;go_wp2_with (first|(refine wpList_load_row rfl 309 _ rfl z rfl 309 (AB l) (0,0) _ HR2 underlying309 rfl Db ?_)|(refine wpList_store_row rfl 309 _ _ rfl z (AB l) rfl rfl 309 (AB l) HR2 Db rfl aj ?_;rw[setRow_self _ _ _ _ _ HR2.out]));exact Dt (v:=.agg (AB l)) (results_cell_row rfl _ _ z 309 _ (0,0) _ rfl HR2 underlying309 rfl Db) rfl ⟨by rw[HL.out],HB⟩
end
section
def cntF(l:Array Bool):Nat:=l.toList.count false
theorem yS:∀ (l:List Bool) (i:Nat),l.getD i true=false→(l.set i true).count false+1=l.count false
 |[],i,h=>by simp at h
 |b :: l,0,h=>by
  have hb:b=false:=by simpa using h
  subst hb;simp
 |b :: l,i+1,h=>by
  have:=yS l i (by simpa using h);rw[List.set_cons_succ,List.count_cons,List.count_cons];omega
theorem yT{l:Array Bool}{i:Nat}(h:l.getD i true=false):cntF (l.setIfInBounds i true)+1=cntF l:=by
 unfold cntF;rw[Array.toList_setIfInBounds];refine yS _ _ ?_;rw[FK,CB];simpa using h
section
variable {P:Program}{ops:Array Oper}{Q:Exit→Act→World→Prop}{md:Region.Mode}{S:World→Prop}
theorem yU{Inv:Array Bool→Act→World→Prop}{E:Array Bool}{m:Nat}(hend:∀ a w,Inv E a w→wpAnyH P md ops Q S m E a w)(hm:cntF E=m)
  (hstep:∀ l a w,Inv l a w→l≠E→Region.ready md ops l≠[]∧∀ i∈Region.ready md ops l,wpOp P ops Q i (fun a' w'=>S w'∧Inv (l.setIfInBounds i true) a' w') a w):
  ∀ (n:Nat) (l:Array Bool) (a:Act) (w:World),cntF l=n→Inv l a w→wpAnyH P md ops Q S n l a w
 |n,l,a,w=>fun hn hi=>by
  by_cases e:l=E
  ·subst e;rw[←hn,hm];exact hend a w hi
  ·obtain⟨h1,h2⟩:=hstep l a w hi e;obtain⟨j,hj⟩:=List.exists_mem_of_ne_nil _ h1;have hc:=yT (mem_ready.1 hj).1;cases n with
   |zero=>omega
   |succ n=>
    refine⟨fun h=>absurd h h1,fun i hi2=>wpOp_mono (fun a' w' h'=>⟨h'.1,?_⟩) (h2 i hi2)⟩;exact yU hend hm hstep n _ a' w' (by have:=yT (mem_ready.1 hi2).1;omega) h'.2
end
section
variable {P:Program}{ops:Array Oper}{Q:Exit→Act→World→Prop}{md:Region.Mode}{S S2:World→Prop}
theorem GH{i:Nat}{o:Oper}{fuel:Nat}{listed:Array Bool}{a:Act}{w:World}(hr:Region.ready md ops listed=[i])(ho:ops[i]?=some o)
  (h:∀ K':Act→World→Prop,Shut (∀ a w,S w→wpAnyH P md ops Q S fuel (listed.setIfInBounds i true) a w→K' a w)→if Region.wanted o (yielded ops a.tmps)=true then Oper.wp P o a w K' Q else K' (a.put o.dst undef) w):
  wpAnyH P md ops Q S (fuel+1) listed a w:=
 ⟨fun h0=>(by rw[hr] at h0;cases h0),fun j hj=>by
  rw[hr,DT] at hj;subst hj;exact wpOp_step ho (fun K' hK=>h K' (fun a w hS hW=>hK a w ⟨hS,hW⟩))⟩
theorem tkH(i:Nat)(oi:Oper){v:Value}{fuel:Nat}{listed:Array Bool}{a:Act}{w:World}(hS:S w)(h:wpAnyH P md ops Q S fuel (listed.setIfInBounds i true) (a.put oi.dst v) w)
  (hi:ops[i]?=some oi:=by rfl)(hs:Region.noSelect ops=true:=by kernel_rfl)(hf:Region.free md ops listed i=true:=by kernel_rfl)(hr:(Region.ready md ops listed).contains i=true:=by kernel_rfl)
  (hQ:∀ c a w,Q (.panic c) (a.put oi.dst v) w→Q (.panic c) a w:=by exact fun _ _ _ h=>h)(hw:Region.wanted oi (yielded ops a.tmps)=true:=by rfl)
  (hy:∀ w,S w→(execOp a.eval oi).run P w=.ok (.value v) w:=by intro V hV;(try dsimp only at hV);go_simp;all_goals with_reducible rfl):wpAnyH P md ops Q S (fuel+1) listed a w:=
 wpAnyH_take hi hs hf hr hQ (Or.inl ⟨hw,hy⟩) hS h
end
end
namespace Sha
open Go.RowKit
def Ej:List Int:=[1116352408,1899447441,3049323471,3921009573,961987163,1508970993,2453635748,2870763221,3624381080,310598401,607225278,1426881987,1925078388,2162078206,2614888103,3248222580,3835390401,4022224774,264347078,604807628,770255983,1249150122,1555081692,1996064986,2554220882,2821834349,2952996808,3210313671,3336571891,3584528711,113926993,338241895,666307205,773529912,1294757372,1396182291,1695183700,1986661051,2177026350,2456956037,2730485921,2820302411,3259730800,3345764771,3516065817,3600352804,4094571909,275423344,430227734,506948616,659060556,883997877,958139571,1322822218,1537002063,1747873779,1955562222,2024104815,2227730452,2361852424,2428436474,2756734187,3204031479,3329325298]
@[irreducible] def Ev (h:List Int) (rest:List UInt8) (n:Nat):Array Value:=((h.map fun x=>Value.int .u32 x)++[Value.string (bs rest),Value.int .u64 (n:Int)]).toArray
theorem ajB{h:List Int}{rest:List UInt8}{n:Nat}(hl:h.length=8)(i:Nat)(hi:i < 8):(Ev h rest n)[i]?=some (.int .u32 (h.getD i 0)):=by
 unfold Ev;rw[List.getElem?_toArray,List.getElem?_append_left (by rw[BQ];omega),Gt,BP (by omega),FK,BP (by omega)];rfl
theorem OB{h:List Int}{rest:List UInt8}{n:Nat}(hl:h.length=8):(Ev h rest n)[8]?=some (.string (bs rest))∧(Ev h rest n)[9]?=some (.int .u64 (n:Int)):=by
 unfold Ev;constructor<;>(rw[List.getElem?_toArray,List.getElem?_append_right (by rw[BQ];omega),BQ,hl];rfl)
theorem ajC{h:List Int}{rest:List UInt8}{n:Nat}(hl:h.length=8)(i:Nat)(hi:i < 8)(x:Int):(Ev h rest n).setIfInBounds i (.int .u32 x)=Ev (h.set i x) rest n:=by
 unfold Ev;rw[List.setIfInBounds_toArray,List.set_append_left _ _ (by rw[BQ];omega),List.map_set]
theorem kF{h:List Int}{rest:List UInt8}{n:Nat}(hl:h.length=8)(r:List UInt8):(Ev h rest n).setIfInBounds 8 (.string (bs r))=Ev h r n:=by
 unfold Ev;rw[List.setIfInBounds_toArray,List.set_append_right _ _ (by rw[BQ];omega),BQ,hl];rfl
theorem ajD{h:List Int}{rest:List UInt8}{n:Nat}(hl:h.length=8)(m:Nat):(Ev h rest n).setIfInBounds 9 (.int .u64 (m:Int))=Ev h rest m:=by
 unfold Ev;rw[List.setIfInBounds_toArray,List.set_append_right _ _ (by rw[BQ];omega),BQ,hl];rfl
end Sha
section
open Go.RowKit
open Sha
theorem yV:(#[.int .u32 1116352408,.int .u32 1899447441,.int .u32 3049323471,.int .u32 3921009573,.int .u32 961987163,.int .u32 1508970993,.int .u32 2453635748,.int .u32 2870763221,.int .u32 3624381080,.int .u32 310598401,.int .u32 607225278,.int .u32 1426881987,.int .u32 1925078388,.int .u32 2162078206,.int .u32 2614888103,.int .u32 3248222580,.int .u32 3835390401,.int .u32 4022224774,.int .u32 264347078,.int .u32 604807628,.int .u32 770255983,.int .u32 1249150122,.int .u32 1555081692,.int .u32 1996064986,.int .u32 2554220882,.int .u32 2821834349,.int .u32 2952996808,.int .u32 3210313671,.int .u32 3336571891,.int .u32 3584528711,.int .u32 113926993,.int .u32 338241895,.int .u32 666307205,.int .u32 773529912,.int .u32 1294757372,.int .u32 1396182291,.int .u32 1695183700,.int .u32 1986661051,.int .u32 2177026350,.int .u32 2456956037,.int .u32 2730485921,.int .u32 2820302411,.int .u32 3259730800,.int .u32 3345764771,.int .u32 3516065817,.int .u32 3600352804,.int .u32 4094571909,.int .u32 275423344,.int .u32 430227734,.int .u32 506948616,.int .u32 659060556,.int .u32 883997877,.int .u32 958139571,.int .u32 1322822218,.int .u32 1537002063,.int .u32 1747873779,.int .u32 1955562222,.int .u32 2024104815,.int .u32 2227730452,.int .u32 2361852424,.int .u32 2428436474,.int .u32 2756734187,.int .u32 3204031479,.int .u32 3329325298]:Array Value)=AB Ej:=by
 unfold AB Ej;rfl
theorem ajE(w:World):
  Calls prog 247 #[] w fun e w'=>e=.returned (.agg (AB Ej))∧Bw w w':=by
 go_enter func247,ntmps247;have ay7:=UO Ej;have hold:(#[.int .u32 0,.int .u32 0,.int .u32 0,.int .u32 0,.int .u32 0,.int .u32 0,.int .u32 0,.int .u32 0,.int .u32 0,.int .u32 0,.int .u32 0,.int .u32 0,.int .u32 0,.int .u32 0,.int .u32 0,.int .u32 0,.int .u32 0,.int .u32 0,.int .u32 0,.int .u32 0,.int .u32 0,.int .u32 0,.int .u32 0,.int .u32 0,.int .u32 0,.int .u32 0,.int .u32 0,.int .u32 0,.int .u32 0,.int .u32 0,.int .u32 0,.int .u32 0,.int .u32 0,.int .u32 0,.int .u32 0,.int .u32 0,.int .u32 0,.int .u32 0,.int .u32 0,.int .u32 0,.int .u32 0,.int .u32 0,.int .u32 0,.int .u32 0,.int .u32 0,.int .u32 0,.int .u32 0,.int .u32 0,.int .u32 0,.int .u32 0,.int .u32 0,.int .u32 0,.int .u32 0,.int .u32 0,.int .u32 0,.int .u32 0,.int .u32 0,.int .u32 0,.int .u32 0,.int .u32 0,.int .u32 0,.int .u32 0,.int .u32 0,.int .u32 0]:Array Value).size=(AB Ej).size:=by rw[Oz];rfl
 have HS:=Hi (X8 Ej rfl);have HC:=Hi yV;go_wp2_with (first|(refine wpList_store_row rfl 309 _ _ rfl w.heap.size (AB Ej) rfl (congrArg Value.agg HC.out) 309 _ (Aq w _) HS hold ay7 ?_;rw[World.setRow_alloc_new]));exact Dt (v:=.agg (AB Ej)) (results_cell_row rfl _ _ w.heap.size 309 _ (0,0) _ rfl (Aq w _) underlying309 rfl (X8 Ej rfl)) rfl ⟨rfl,(Ad _ _).alloc (Ab _) _⟩
end
end Go.Proofs.YtmbbhdebddbhoaaGreat
