/- Sha1 -/
import Derived.Test.YtmbbhdebddbhoaaGreatR5
import Derived.Laws.CopyRow
import Derived.BigRegion
import Derived.OrdersHeld
import Derived.RegionTactic
set_option maxHeartbeats 4000000
set_option maxRecDepth 100000
set_option linter.all false
namespace Go.Proofs.YtmbbhdebddbhoaaGreat
open Tryz
namespace Sha
open Go.RowKit
def Hq(x:Int)(n:Nat):Int:=bits .or .u32 (x / 2 ^ n) (x*2 ^ (32 -n) % 4294967296)
@[irreducible] def Bb (l:List Int):Array Value:=(l.map fun x=>Value.int .u32 x).toArray
@[simp] theorem Td (l:List Int):(Bb l).size=l.length:=by unfold Bb;simp
theorem Rm(l:List Int)(i:Nat)(h:i < l.length):(Bb l)[i]?=some (.int .u32 l[i]):=by
 unfold Bb;rw[List.getElem?_toArray,IX,Cn h];rfl
theorem uE(l:List Int)(i:Nat)(x:Int):(Bb l).setIfInBounds i (.int .u32 x)=Bb (l.set i x):=by
 unfold Bb;rw[List.map_set,List.setIfInBounds_toArray]
theorem eD(l:List Int):(Bb l).all (·.oneCell')=true:=by
 unfold Bb;rw[Array.all_eq_true];intro i hi;simp at hi ⊢;rfl
def zeros(n:Nat):List Int:=List.replicate n 0
def be(b:List UInt8)(t:Nat):Int:=
 bits .or .u32 (bits .or .u32 (bits .or .u32 ((b[4*t]?.getD 0).toNat % 4294967296*16777216 % 4294967296) ((b[4*t+1]?.getD 0).toNat % 4294967296*65536 % 4294967296)) ((b[4*t+2]?.getD 0).toNat % 4294967296*256 % 4294967296)) ((b[4*t+3]?.getD 0).toNat % 4294967296)
def sig(x:Int)(i j k:Nat):Int:=bits .xor .u32 (bits .xor .u32 (Hq x i) (Hq x j)) (x / 2 ^ k)
def Zz(l:List Int)(t:Nat):Int:=
 (((l.getD (t -16) 0+sig (l.getD (t -15) 0) 7 18 3) % 4294967296+l.getD (t -7) 0) % 4294967296+sig (l.getD (t -2) 0) 17 19 10) % 4294967296
def wsTo(b:List UInt8):Nat→List Int
 |0=>(List.range 16).map (be b)
 |k+1=>wsTo b k++[Zz (wsTo b k) (16+k)]
theorem ZU(b:List UInt8):∀ k,(wsTo b k).length=16+k
 |0=>by simp[wsTo]
 |k+1=>by simp[wsTo,ZU b k];omega
end Sha
section
open Go.RowKit
open Sha
theorem tT(x:Int)(n:Nat)(h0:0 < n)(hn:n < 32)(w:World):
  Calls prog 248 #[.int .u32 x,.int .i64 n] w fun e w'=>e=.returned (.int .u32 (Hq x n))∧Bw w w':=by
 have h1:(n:Int) < 32:=by omega
 have h2:(0:Int) < n:=by omega
 go_enter func248,ntmps248;go_wp2_with fail
 go_quiet (fail)
 go_wp2_with fail;go_ret;exact⟨rfl,F6 _ _⟩
theorem adx:(#[.int .u32 0,.int .u32 0,.int .u32 0,.int .u32 0,.int .u32 0,.int .u32 0,.int .u32 0,.int .u32 0,.int .u32 0,.int .u32 0,.int .u32 0,.int .u32 0,.int .u32 0,.int .u32 0,.int .u32 0,.int .u32 0,.int .u32 0,.int .u32 0,.int .u32 0,.int .u32 0,.int .u32 0,.int .u32 0,.int .u32 0,.int .u32 0,.int .u32 0,.int .u32 0,.int .u32 0,.int .u32 0,.int .u32 0,.int .u32 0,.int .u32 0,.int .u32 0,.int .u32 0,.int .u32 0,.int .u32 0,.int .u32 0,.int .u32 0,.int .u32 0,.int .u32 0,.int .u32 0,.int .u32 0,.int .u32 0,.int .u32 0,.int .u32 0,.int .u32 0,.int .u32 0,.int .u32 0,.int .u32 0,.int .u32 0,.int .u32 0,.int .u32 0,.int .u32 0,.int .u32 0,.int .u32 0,.int .u32 0,.int .u32 0,.int .u32 0,.int .u32 0,.int .u32 0,.int .u32 0,.int .u32 0,.int .u32 0,.int .u32 0,.int .u32 0]:Array Value)=Bb (zeros 64):=by
 unfold Bb zeros;rfl
theorem aAh:(prog.info? 309).map (·.size)=some 64:=by kernel_rfl
theorem lT(l:List Int)(h:l.length=64):(prog.info? 309).map (·.size)=some (Bb l).size:=by rw[Td,h];exact aAh
def S9(b:List UInt8)(k:Nat):List Int:=(List.range k).map (be b)++zeros (64 -k)
theorem bg(b:List UInt8)(k:Nat)(h:k≤64):(S9 b k).length=64:=by unfold S9 zeros;simp;omega
theorem abW(l:List Int)(z:Nat)(x:Int):(l++zeros (z+1)).set l.length x=(l++[x])++zeros z:=by
 unfold zeros;rw[List.set_append_right _ _ (Ac _),Nat.sub_self,List.replicate_succ,List.set_cons_zero,Dp];rfl
theorem agB(b:List UInt8)(k:Nat)(h:k < 64):(S9 b k).set k (be b k)=S9 b (k+1):=by
 unfold S9;have e:=abW ((List.range k).map (be b)) (64 -(k+1)) (be b k);rw[Cf,List.length_range,show 64 -(k+1)+1=64 -k by omega] at e;rw[e,List.range_succ,CF];rfl
theorem XI(b:List UInt8)(j:Nat)(hj:j < b.length)(i:Int)(hi:i=(j:Int))(W:World):(Instr.index 9 (.string (bs b)) (.int .i64 i)).run prog W=.ok (.int .u8 ((b.getD j 0).toNat:Int)) W:=by
 subst hi;rw[run_index_string (P:=prog) (w:=W) 9 (bs b) .i64 _ underlying9,dif_pos ⟨by omega,by rw[afk];omega⟩];simp[GY,hj]
theorem aAs(b:List UInt8)(hb:b.length=64)(w:World):
  Calls prog 246 #[.string (bs b)] w fun e w'=>e=.returned (.agg (Bb (wsTo b 48)))∧Bw w w':=by
 go_enter func246,ntmps246;go_wp2_with fail;rw[adx]
 go_loopw [7] (fun i wr=>∃ k:Nat,k≤16∧i=.int .i64 k∧Bw w wr∧wr.heap[w.heap.size]?=some (.cells (Bb (S9 b k)) 309)) (fun i _=>16 -(intOf i).toNat)
 case atStart=>exact⟨0,by omega,rfl,(Af _ _).alloc (Ac _) _,AJ _ _⟩
 case round=>
  obtain⟨k,hk,rfl,D7,Ah⟩:=hrel;have HB:=Hi D7;have HR:=Hi Ah;by_cases hlt:k < 16
  ·have FE:wr.cell? ⟨w.heap.size,k,none⟩=some (.int .u32 ((S9 b k)[k]'(by rw[bg _ _ (by omega)];omega))):=by
    rw[BA _ _ _ _ _ _ Ah,Rm _ _ (by rw[bg _ _ (by omega)];omega)]
   have hfz:=CJ _ _ k _ _ Ah;generalize (S9 b k)[k]'(by rw[bg _ _ (by omega)];omega)=x0 at FE;have i1:=XI b (4*k) (by omega) (4*(k:Int)) (by omega);have i2:=XI b (4*k+1) (by omega) (4*(k:Int)+1) (by omega);have i3:=XI b (4*k+2) (by omega) (4*(k:Int)+2) (by omega);have i4:=XI b (4*k+3) (by omega) (4*(k:Int)+3) (by omega);clear D7 Ah;go_wp2_with fail;go_region;go_wp2_with fail;go_roundw
   case rel=>exact⟨k+1,by omega,by go_num,((HB.setCell (p:=⟨w.heap.size,k,none⟩) (Ac _) _).drew),by
    have h:=BU wr w.heap.size k _ _ (.int .u32 (be b k)) HR;rw[uE,agB b k (by omega)] at h;exact h⟩
   case measure=>simp[intOf];omega
  ·obtain rfl:k=16:=(by omega);clear D7 Ah;go_wp2_with fail
   go_loopw [4] (fun i wr=>∃ k:Nat,k≤48∧i=.int .i64 ((16+k:Nat):Int)∧Bw w wr∧wr.heap[w.heap.size]?=some (.cells (Bb (wsTo b k++zeros (48 -k))) 309)) (fun i _=>64 -(intOf i).toNat)
   case atStart=>exact⟨0,by omega,rfl,HB,HR⟩
   case round=>
    clear HB HR;obtain⟨k,hk,rfl,D7,Ah⟩:=hrel;have HB:=Hi D7;have HR:=Hi Ah;clear D7 Ah;by_cases hlt:k < 48
    ·have hlen:=ZU b k
     have KP:=Hi (fun(V:World) (h:V.heap[w.heap.size]?=some (.cells (Bb (wsTo b k++zeros (48 -k))) 309))=>(show(∀ j,j < 16+k→V.cell? ⟨w.heap.size,j,none⟩=some (.int .u32 ((wsTo b k).getD j 0)))∧(∃ v0,V.cell? ⟨w.heap.size,16+k,none⟩=some v0)∧V.frozen? ⟨w.heap.size,16+k,none⟩=false from by
      have hl:(wsTo b k++zeros (48 -k)).length=64:=(by rw[Au,hlen];unfold zeros;simp;omega);refine⟨fun j hj=>?_,⟨_,(BA _ _ _ _ _ _ h).trans (Rm _ _ (by omega))⟩,CJ _ _ _ _ _ h⟩;rw[BA _ _ _ _ _ _ h,Rm _ _ (by omega),Rp (by omega),GY,Cn (by omega)];rfl))
     have AR:=Hi (show(wsTo b k++zeros (48 -k)).set (16+k) (Zz (wsTo b k) (16+k))=wsTo b (k+1)++zeros (48 -(k+1)) from by
      have e:=abW (wsTo b k) (48 -(k+1)) (Zz (wsTo b k) (16+k));rw[hlen,show 48 -(k+1)+1=48 -k by omega] at e;exact e)
     unfold Zz at AR;obtain⟨t,ht⟩:=ex (16+k);obtain⟨IU,V8⟩:=ex (t -16);obtain⟨Ql,iI⟩:=ex (t -15);obtain⟨j7,h7⟩:=ex (t -7);obtain⟨j2,h2⟩:=ex (t -2);rw[ht] at KP AR ⊢;rw[V8,iI,h7,h2] at AR;have e16:(t:Int) -16=(IU:Int):=(by omega);have e15:(t:Int) -15=(Ql:Int):=(by omega);have e7:(t:Int) -7=(j7:Int):=(by omega);have e2:(t:Int) -2=(j2:Int):=(by omega);have b0:(t:Int) < 64:=(by omega);have b16:(IU:Int) < 64:=(by omega);have b15:(Ql:Int) < 64:=(by omega);have b7:(j7:Int) < 64:=(by omega);have b2:(j2:Int) < 64:=(by omega);have QI:=Hi (show IU < t∧Ql < t∧j7 < t∧j2 < t∧t+1=16+(k+1)∧k < 48 from by omega);obtain⟨hc,⟨v0,hcz⟩,hfz⟩:=KP _ HR.out;have c15:=hc _ QI.2.1;have c2:=hc _ QI.2.2.2.1;clear hc hlen ht V8 iI h7 h2 hlt hk;obtain⟨VS,dz⟩:=ex ((wsTo b k).getD IU 0);obtain⟨Uu,kg⟩:=ex ((wsTo b k).getD Ql 0);obtain⟨x7,Uf⟩:=ex ((wsTo b k).getD j7 0);obtain⟨x2,E8⟩:=ex ((wsTo b k).getD j2 0);rw[kg] at c15 AR;rw[E8] at c2 AR;rw[dz,Uf] at AR;have HX:=Hi (Cc dz Uf);clear dz kg Uf E8;go_wp2_with fail
     go_quiet (fail)
     have aD:=Hi (fun(V:World) (hb:Bw wr V)=>(hb.block w.heap.size (Ai HR)).trans HR);have IB:=Hi (fun(V:World) (hb:Bw wr V)=>(show V.cell? ⟨w.heap.size,IU,none⟩=some (.int .u32 VS)∧V.cell? ⟨w.heap.size,j7,none⟩=some (.int .u32 x7) from⟨by rw[(KP V (aD V hb)).1 IU QI.1,HX.1],by rw[(KP V (aD V hb)).1 j7 QI.2.2.1,HX.2]⟩))
     have Jm:=Hi (fun(V:World) (v:Value) (hb:Bw wr V)=>(show(V.setCell ⟨w.heap.size,t,none⟩ v).cell? ⟨w.heap.size,IU,none⟩=some (.int .u32 VS)∧(V.setCell ⟨w.heap.size,t,none⟩ v).cell? ⟨w.heap.size,j7,none⟩=some (.int .u32 x7) from by
      have h1:=QI.out;have h2:=IB V hb;rw[World.cell?_setCell_other (w:=V) (a:=⟨w.heap.size,t,none⟩) (b:=⟨w.heap.size,IU,none⟩) (v:=v) (by intro e;injection e with _ e2;omega),World.cell?_setCell_other (w:=V) (a:=⟨w.heap.size,t,none⟩) (b:=⟨w.heap.size,j7,none⟩) (v:=v) (by intro e;injection e with _ e2;omega)];exact h2))
     have Bc:=Hi (show Bw wr (wr.drewN nq) from F6 _ _);have HB1:=Hi (Bc.trans ((Af _ (wr.drewN nq)).drew));clear hcz hfz c15 c2;go_wp2_with fail;have p16:(0:Int)≤(IU:Int):=(by omega);have p7:(0:Int)≤(j7:Int):=(by omega);have Oe:∀ W,(Instr.indexAt 309 (.pointer (some ⟨w.heap.size,0,none⟩)) (.int .i64 (IU:Int))).run prog W=.ok (.pointer (some ⟨w.heap.size,IU,none⟩)) W:=fun W=>by go_simp
     have hxb:∀ W,(Instr.indexAt 309 (.pointer (some ⟨w.heap.size,0,none⟩)) (.int .i64 ((t:Int) -16))).run prog W=.ok (.pointer (some ⟨w.heap.size,IU,none⟩)) W:=fun W=>by go_simp
     have hya:∀ W,(Instr.indexAt 309 (.pointer (some ⟨w.heap.size,0,none⟩)) (.int .i64 (j7:Int))).run prog W=.ok (.pointer (some ⟨w.heap.size,j7,none⟩)) W:=fun W=>by go_simp
     have hyb:∀ W,(Instr.indexAt 309 (.pointer (some ⟨w.heap.size,0,none⟩)) (.int .i64 ((t:Int) -7))).run prog W=.ok (.pointer (some ⟨w.heap.size,j7,none⟩)) W:=fun W=>by go_simp
     have aCu:IntKind.i64.wrap (IU:Int)=(IU:Int):=(by rw[IntKind.wrap];simp[IntKind.bits,IntKind.signed];omega);have hw7:IntKind.i64.wrap (j7:Int)=(j7:Int):=by rw[IntKind.wrap];simp[IntKind.bits,IntKind.signed];omega
     go_region_held3 (fun V=>V.cell? ⟨w.heap.size,IU,none⟩=some (.int .u32 VS)∧V.cell? ⟨w.heap.size,j7,none⟩=some (.int .u32 x7))
      (first|exact Jm _ _ VX|exact IB _ VX|exact IB _ G8|exact IB _ Jj|exact IB _ Ao|exact IB _ HB1|exact IB _ Bc)
      (first
       |(go_at_call 248;refine(tT x2 19 (by decide) (by decide) wD).mono ?_;rintro e wE ⟨rfl,hb⟩;have VX:=Hi (G8.trans (hb.mono G8.size));clear hb;obtain⟨_,⟨vz,hcz⟩,hfz⟩:=KP _ (aD _ VX))
       |(go_at_call 248;refine(tT x2 17 (by decide) (by decide) wC).mono ?_;rintro e wD ⟨rfl,hb⟩;have G8:=Hi (Jj.trans (hb.mono Jj.size));clear hb)
       |(go_at_call 248;refine(tT Uu 18 (by decide) (by decide) wA).mono ?_;rintro e wC ⟨rfl,hb⟩;have Jj:=Hi (Ao.trans (hb.mono Ao.size));clear hb)
       |(go_at_call 248;refine(tT Uu 7 (by decide) (by decide) _).mono ?_;rintro e wA ⟨rfl,hb⟩;have Ao:=Hi (HB1.trans (hb.mono HB1.size));clear hb))
     go_wp2_with fail;refine⟨?_,?measure⟩
     ·repeat apply Exists.intro
      refine⟨?rel,rfl⟩
      case rel=>exact⟨k+1,by have:=QI.out;omega,by have:=QI.2.2.2.2.1;go_num,((HB.trans (VX.mono HB.size)).setCell (p:=⟨w.heap.size,t,none⟩) (Ac _) _),by
       have h:=BU wE w.heap.size t _ _ (.int .u32 ((((VS+sig Uu 7 18 3) % 4294967296+x7) % 4294967296+sig x2 17 19 10) % 4294967296)) (aD _ VX);rw[uE,AR.out] at h;exact h⟩
     show 64 -((t:Int)+1).toNat < 64 -(t:Int).toNat
     omega
    ·obtain rfl:k=48:=(by omega);have hsz:=lT (wsTo b 48) (ZU b 48);have EZ:=Hi hsz
     have BI:=Hi (show wr.heap[w.heap.size]?=some (.cells (Bb (wsTo b 48)) 309) from by
      have h:=HR.out;rw[show 48 -48=0 from rfl,show zeros 0=[] from rfl,EH] at h;exact h)
     have mP:=Hi (eD (wsTo b 48));clear hsz HR;obtain⟨l,hl⟩:=ex (wsTo b 48);rw[hl] at EZ BI mP;have HL:=Hi hl;clear hl;have hzz:∃ z,w.heap.size=z:=⟨_,rfl⟩;obtain⟨z,hz⟩:=hzz;rw[hz] at BI ⊢;clear hz;go_wp2_with (first|(refine wpList_load_row rfl 309 _ rfl z rfl 309 (Bb l) (0,0) _ BI underlying309 rfl EZ ?_)|(refine wpList_store_row rfl 309 _ _ rfl z (Bb l) rfl rfl 309 (Bb l) BI EZ rfl mP ?_;rw[setRow_self _ _ _ _ _ BI.out]));exact El (v:=.agg (Bb l)) (results_cell_row rfl _ _ z 309 _ (0,0) _ rfl BI underlying309 rfl EZ) rfl ⟨by rw[HL.out],HB⟩
end
section
def cntF(l:Array Bool):Nat:=l.toList.count false
theorem afz:∀ (l:List Bool) (i:Nat),l.getD i true=false→(l.set i true).count false+1=l.count false
 |[],i,h=>by simp at h
 |b :: l,0,h=>by
  have hb:b=false:=by simpa using h
  subst hb;simp
 |b :: l,i+1,h=>by
  have:=afz l i (by simpa using h);rw[List.set_cons_succ,List.count_cons,List.count_cons];omega
theorem afu{l:Array Bool}{i:Nat}(h:l.getD i true=false):cntF (l.setIfInBounds i true)+1=cntF l:=by
 unfold cntF;rw[Array.toList_setIfInBounds];refine afz _ _ ?_;rw[GY,Dn];simpa using h
section
variable {P:Program}{ops:Array Oper}{Q:Exit→Act→World→Prop}{md:Region.Mode}{S:World→Prop}
theorem anY{Inv:Array Bool→Act→World→Prop}{E:Array Bool}{m:Nat}(hend:∀ a w,Inv E a w→wpAnyH P md ops Q S m E a w)(hm:cntF E=m)
  (hstep:∀ l a w,Inv l a w→l≠E→Region.ready md ops l≠[]∧∀ i∈Region.ready md ops l,wpOp P ops Q i (fun a' w'=>S w'∧Inv (l.setIfInBounds i true) a' w') a w):
  ∀ (n:Nat) (l:Array Bool) (a:Act) (w:World),cntF l=n→Inv l a w→wpAnyH P md ops Q S n l a w
 |n,l,a,w=>fun hn hi=>by
  by_cases e:l=E
  ·subst e;rw[←hn,hm];exact hend a w hi
  ·obtain⟨h1,h2⟩:=hstep l a w hi e;obtain⟨j,hj⟩:=List.exists_mem_of_ne_nil _ h1;have hc:=afu (mem_ready.1 hj).1;cases n with
   |zero=>omega
   |succ n=>
    refine⟨fun h=>absurd h h1,fun i Ja=>wpOp_mono (fun a' w' h'=>⟨h'.1,?_⟩) (h2 i Ja)⟩;exact anY hend hm hstep n _ a' w' (by have:=afu (mem_ready.1 Ja).1;omega) h'.2
end
section
variable {P:Program}{ops:Array Oper}{Q:Exit→Act→World→Prop}{md:Region.Mode}{S S2:World→Prop}
theorem LW{i:Nat}{o:Oper}{fuel:Nat}{listed:Array Bool}{a:Act}{w:World}(hr:Region.ready md ops listed=[i])(ho:ops[i]?=some o)
  (h:∀ K':Act→World→Prop,Shut (∀ a w,S w→wpAnyH P md ops Q S fuel (listed.setIfInBounds i true) a w→K' a w)→if Region.wanted o (yielded ops a.tmps)=true then Oper.wp P o a w K' Q else K' (a.put o.dst undef) w):
  wpAnyH P md ops Q S (fuel+1) listed a w:=
 ⟨fun h0=>(by rw[hr] at h0;cases h0),fun j hj=>by
  rw[hr,EX] at hj;subst hj;exact wpOp_step ho (fun K' hK=>h K' (fun a w hS hW=>hK a w ⟨hS,hW⟩))⟩
theorem tkH(i:Nat)(oi:Oper){v:Value}{fuel:Nat}{listed:Array Bool}{a:Act}{w:World}(hS:S w)(h:wpAnyH P md ops Q S fuel (listed.setIfInBounds i true) (a.put oi.dst v) w)
  (hi:ops[i]?=some oi:=by rfl)(hs:Region.noSelect ops=true:=by kernel_rfl)(hf:Region.free md ops listed i=true:=by kernel_rfl)(hr:(Region.ready md ops listed).contains i=true:=by kernel_rfl)
  (hQ:∀ c a w,Q (.panic c) (a.put oi.dst v) w→Q (.panic c) a w:=by exact fun _ _ _ h=>h)(hw:Region.wanted oi (yielded ops a.tmps)=true:=by rfl)
  (hy:∀ w,S w→(execOp a.eval oi).run P w=.ok (.value v) w:=by intro V hV;(try dsimp only at hV);go_simp;all_goals with_reducible rfl):wpAnyH P md ops Q S (fuel+1) listed a w:=
 wpAnyH_take hi hs hf hr hQ (Or.inl ⟨hw,hy⟩) hS h
end
end
namespace Sha
open Go.RowKit
def FI:List Int:=[1116352408,1899447441,3049323471,3921009573,961987163,1508970993,2453635748,2870763221,3624381080,310598401,607225278,1426881987,1925078388,2162078206,2614888103,3248222580,3835390401,4022224774,264347078,604807628,770255983,1249150122,1555081692,1996064986,2554220882,2821834349,2952996808,3210313671,3336571891,3584528711,113926993,338241895,666307205,773529912,1294757372,1396182291,1695183700,1986661051,2177026350,2456956037,2730485921,2820302411,3259730800,3345764771,3516065817,3600352804,4094571909,275423344,430227734,506948616,659060556,883997877,958139571,1322822218,1537002063,1747873779,1955562222,2024104815,2227730452,2361852424,2428436474,2756734187,3204031479,3329325298]
@[irreducible] def FT (h:List Int) (rest:List UInt8) (n:Nat):Array Value:=((h.map fun x=>Value.int .u32 x)++[Value.string (bs rest),Value.int .u64 (n:Int)]).toArray
theorem atu{h:List Int}{rest:List UInt8}{n:Nat}(hl:h.length=8)(i:Nat)(hi:i < 8):(FT h rest n)[i]?=some (.int .u32 (h.getD i 0)):=by
 unfold FT;rw[List.getElem?_toArray,List.getElem?_append_left (by rw[Cf];omega),IX,Cn (by omega),GY,Cn (by omega)];rfl
theorem TV{h:List Int}{rest:List UInt8}{n:Nat}(hl:h.length=8):(FT h rest n)[8]?=some (.string (bs rest))∧(FT h rest n)[9]?=some (.int .u64 (n:Int)):=by
 unfold FT;constructor<;>(rw[List.getElem?_toArray,List.getElem?_append_right (by rw[Cf];omega),Cf,hl];rfl)
theorem atw{h:List Int}{rest:List UInt8}{n:Nat}(hl:h.length=8)(i:Nat)(hi:i < 8)(x:Int):(FT h rest n).setIfInBounds i (.int .u32 x)=FT (h.set i x) rest n:=by
 unfold FT;rw[List.setIfInBounds_toArray,List.set_append_left _ _ (by rw[Cf];omega),List.map_set]
theorem aah{h:List Int}{rest:List UInt8}{n:Nat}(hl:h.length=8)(r:List UInt8):(FT h rest n).setIfInBounds 8 (.string (bs r))=FT h r n:=by
 unfold FT;rw[List.setIfInBounds_toArray,List.set_append_right _ _ (by rw[Cf];omega),Cf,hl];rfl
theorem atx{h:List Int}{rest:List UInt8}{n:Nat}(hl:h.length=8)(m:Nat):(FT h rest n).setIfInBounds 9 (.int .u64 (m:Int))=FT h rest m:=by
 unfold FT;rw[List.setIfInBounds_toArray,List.set_append_right _ _ (by rw[Cf];omega),Cf,hl];rfl
end Sha
section
open Go.RowKit
open Sha
theorem akm:(#[.int .u32 1116352408,.int .u32 1899447441,.int .u32 3049323471,.int .u32 3921009573,.int .u32 961987163,.int .u32 1508970993,.int .u32 2453635748,.int .u32 2870763221,.int .u32 3624381080,.int .u32 310598401,.int .u32 607225278,.int .u32 1426881987,.int .u32 1925078388,.int .u32 2162078206,.int .u32 2614888103,.int .u32 3248222580,.int .u32 3835390401,.int .u32 4022224774,.int .u32 264347078,.int .u32 604807628,.int .u32 770255983,.int .u32 1249150122,.int .u32 1555081692,.int .u32 1996064986,.int .u32 2554220882,.int .u32 2821834349,.int .u32 2952996808,.int .u32 3210313671,.int .u32 3336571891,.int .u32 3584528711,.int .u32 113926993,.int .u32 338241895,.int .u32 666307205,.int .u32 773529912,.int .u32 1294757372,.int .u32 1396182291,.int .u32 1695183700,.int .u32 1986661051,.int .u32 2177026350,.int .u32 2456956037,.int .u32 2730485921,.int .u32 2820302411,.int .u32 3259730800,.int .u32 3345764771,.int .u32 3516065817,.int .u32 3600352804,.int .u32 4094571909,.int .u32 275423344,.int .u32 430227734,.int .u32 506948616,.int .u32 659060556,.int .u32 883997877,.int .u32 958139571,.int .u32 1322822218,.int .u32 1537002063,.int .u32 1747873779,.int .u32 1955562222,.int .u32 2024104815,.int .u32 2227730452,.int .u32 2361852424,.int .u32 2428436474,.int .u32 2756734187,.int .u32 3204031479,.int .u32 3329325298]:Array Value)=Bb FI:=by
 unfold Bb FI;rfl
theorem ayR(w:World):
  Calls prog 247 #[] w fun e w'=>e=.returned (.agg (Bb FI))∧Bw w w':=by
 go_enter func247,ntmps247;have cO:=eD FI;have hold:(#[.int .u32 0,.int .u32 0,.int .u32 0,.int .u32 0,.int .u32 0,.int .u32 0,.int .u32 0,.int .u32 0,.int .u32 0,.int .u32 0,.int .u32 0,.int .u32 0,.int .u32 0,.int .u32 0,.int .u32 0,.int .u32 0,.int .u32 0,.int .u32 0,.int .u32 0,.int .u32 0,.int .u32 0,.int .u32 0,.int .u32 0,.int .u32 0,.int .u32 0,.int .u32 0,.int .u32 0,.int .u32 0,.int .u32 0,.int .u32 0,.int .u32 0,.int .u32 0,.int .u32 0,.int .u32 0,.int .u32 0,.int .u32 0,.int .u32 0,.int .u32 0,.int .u32 0,.int .u32 0,.int .u32 0,.int .u32 0,.int .u32 0,.int .u32 0,.int .u32 0,.int .u32 0,.int .u32 0,.int .u32 0,.int .u32 0,.int .u32 0,.int .u32 0,.int .u32 0,.int .u32 0,.int .u32 0,.int .u32 0,.int .u32 0,.int .u32 0,.int .u32 0,.int .u32 0,.int .u32 0,.int .u32 0,.int .u32 0,.int .u32 0,.int .u32 0]:Array Value).size=(Bb FI).size:=by rw[Td];rfl
 have HS:=Hi (lT FI rfl);have HC:=Hi akm;go_wp2_with (first|(refine wpList_store_row rfl 309 _ _ rfl w.heap.size (Bb FI) rfl (congrArg Value.agg HC.out) 309 _ (AJ w _) HS hold cO ?_;rw[World.setRow_alloc_new]));exact El (v:=.agg (Bb FI)) (results_cell_row rfl _ _ w.heap.size 309 _ (0,0) _ rfl (AJ w _) underlying309 rfl (lT FI rfl)) rfl ⟨rfl,(Af _ _).alloc (Ac _) _⟩
end
end Go.Proofs.YtmbbhdebddbhoaaGreat
