/- PrsGet SameT RefOct RefPut RefCom RefCommit PrsKeys PrsKeysW MemW MemR MemG FilDown -/
import Derived.Test.YtkmninbcgipliaaGreatDoorV8
set_option maxHeartbeats 4000000
set_option maxRecDepth 100000
set_option linter.all false
namespace Go.Proofs.YtkmninbcgipliaaGreatDoor
open Tryz
open Go.RowKit
namespace Bt
open Go.Maps
open Ag Ar Av
def VO(w:World)(s:T)(e:Ending)(w':World):Prop:=match I1 s with
 |none=>e=.returned (.tuple #[.slice none 0 0,.int .i64 7])∧Bw w w'
 |some l=>∃ v,e=.returned (.tuple #[v,.int .i64 0])∧BJ w' w.heap.size v l∧Bw w w'
theorem mo{w w':World}{s:T}{e:Ending}(h:I1 s=none)(he:e=.returned (.tuple #[.slice none 0 0,.int .i64 7]))(hb:Bw w w'):VO w s e w':=by
 unfold VO;rw[h];exact⟨he,hb⟩
theorem ayW{w w':World}{s:T}{e:Ending}{v:Value}{l:M}(h:I1 s=some l)(he:e=.returned (.tuple #[v,.int .i64 0]))(ho:BJ w' w.heap.size v l)(hb:Bw w w'):VO w s e w':=by
 unfold VO;rw[h];exact⟨v,he,ho,hb⟩
structure nP(w:World)(s:T)(n:Nat)(i:Nat)(S:T)(l:M)(v:Value)(wr:World):Prop where
 le:i≤n
 len:l.length=i
 short:S.length≤s.length
 read:Ez (2*n) (s.drop 2)=(Ez (2*n -2*i) S).map fun q=>(flat l++q.1,q.2)
 row:BJ wr w.heap.size v l
 AO:Bw w wr
def aoT(w:World)(s:T)(n:Nat)(sv lv iv:Value)(wr:World):Prop:=∃ (i:Nat) (S:T) (l:M),sv=.string (bs S)∧iv=.int .u64 (i:Int)∧nP w s n i S l lv wr
theorem amk(s:T)(w:World)(hs:s.length≤1000000000):Calls prog 229 #[.string (bs s)] w fun e w'=>VO w s e w':=by
 obtain⟨i0,Bl,AY,Ba,Be⟩:=DC Rb;by_cases h2:s.length < 2
 ·have hR:Hid (I1 s=none):=Hi (by unfold I1;rw[Ad h2])
  go_in
  go_wp2_with fail;exact EU (v:=.tuple #[.slice none 0 0,.int .i64 7]) (by simp[results,results229,go_sem]) rfl (mo hR.out rfl (Ai _ _))
 ·have GY:∀ W,(Instr.slice 9 (.string (bs s)) none (some (.int .i64 2)) none).run prog W=.ok (.string (bs (s.take 2))) W:=fun W=>O7 prog W 9 underlying9 s 2 (by omega)
  have XO:∀ W,(Instr.slice 9 (.string (bs s)) (some (.int .i64 2)) none none).run prog W=.ok (.string (bs (s.drop 2))) W:=fun W=>ME prog W 9 underlying9 s 2 (by omega)
  have hlt:(s.take 2).length=2:=by rw[AZ];omega
  have hv:=A9.JS (s.take 2);rw[hlt] at hv;have Lp:=Hi (fun(W:World)=>XA (s.take 2) W (by omega) (by omega));obtain⟨n,hn⟩:=ex (A9.val (s.take 2));have Ep:=Hi (show I1 s=(Ez (2*n) (s.drop 2)).bind fun q=>if q.2=[]∧CU (Sr q.1) then some (Sr q.1) else none from by unfold I1;rw[Ab h2,hn]);rw[hn] at Lp hv;have LK:n < 65536:=hv;have hsi:¬ (s.length:Int) < 2:=by omega
  clear hn hlt hv
  go_in
  go_wp2_with fail;refine(Lp _).mono ?_;rintro e w1⟨rfl,rfl⟩;go_wp2
  go_loopw [0,2,23] (fun sv lv iv wr=>aoT w s n sv lv iv wr) (fun _ _ iv _=>n -(intOf iv).toNat)
  case atStart=>exact⟨0,s.drop 2,[],rfl,rfl,AV _,rfl,by rw[Ct];omega,by simp[flat],by unfold BJ;rw[QC];exact DZ _ _ _ _,Ai _ _⟩
  case round=>
   obtain⟨i,S,l,rfl,rfl,Bc⟩:=hrel;have Bh:=Hi Bc;have Zr:=Bc.short;have hle:=Bc.le;by_cases hlt:i < n
   ·cases hr:Fv S with
    |none=>
     have hV:Fw S=([],0,6):=(by unfold Fw;rw[hr]);have Ik:=Hi (fun(W:World)=>fQ S W (by omega));rw[hV] at Ik;have hR:Hid (I1 s=none):=Hi (by rw[Ep.out,fZ (j:=2*i) (by omega) Bc.read hr];rfl);clear Bc hV hr;go_wp2_with fail;refine(Ik _).mono ?_;rintro e w2⟨rfl,hb⟩;have HB:=Hi hb;clear hb;go_wp2_with fail;exact EU (v:=.tuple #[.slice none 0 0,.int .i64 7]) (by simp[results,results229,go_sem]) rfl (mo hR.out rfl (Bh.AO.trans (HB.mono Bh.AO.size)))
    |some r=>
     obtain⟨k,n1⟩:=r;obtain⟨_,FU,_⟩:=aM hr;have hV:Fw S=(k,n1,0):=(by unfold Fw;rw[hr]);have Ik:=Hi (fun(W:World)=>fQ S W (by omega));rw[hV] at Ik;have EZ:=Hi (gm (j:=2*i) (by omega) Bc.read hr);have hcut:∀ W,(Instr.slice 9 (.string (bs S)) (some (.int .i64 (n1:Int))) none none).run prog W=.ok (.string (bs (S.drop n1))) W:=fun W=>ME prog W 9 underlying9 S n1 FU
     cases DK:Fv (S.drop n1) with
     |none=>
      have Oz:Fw (S.drop n1)=([],0,6):=(by unfold Fw;rw[DK]);have Rx:=Hi (fun(W:World)=>fQ (S.drop n1) W (by rw[Ct];omega));rw[Oz] at Rx;have hR:Hid (I1 s=none):=Hi (by rw[Ep.out,fZ (j:=2*i+1) (by omega) EZ DK];rfl);clear Bc hV hr Oz DK;go_wp2_with fail;refine(Ik _).mono ?_;rintro e w2⟨rfl,hb⟩;have HB:=Hi (Bh.AO.trans (hb.mono Bh.AO.size));clear hb;go_wp2_with fail;refine(Rx _).mono ?_;rintro e w3⟨rfl,hb⟩;have Au:=bH HB hb;clear hb;go_wp2_with fail;exact EU (v:=.tuple #[.slice none 0 0,.int .i64 7]) (by simp[results,results229,go_sem]) rfl (mo hR.out rfl Au)
     |some r2=>
      obtain⟨v,n2⟩:=r2;obtain⟨_,GM,_⟩:=aM DK;rw[Ct] at GM;have Oz:Fw (S.drop n1)=(v,n2,0):=(by unfold Fw;rw[DK]);have Rx:=Hi (fun(W:World)=>fQ (S.drop n1) W (by rw[Ct];omega));rw[Oz] at Rx;have Z4:=Hi (gm (j:=2*i+1) (by omega) EZ DK);have ave:∀ W,(Instr.slice 9 (.string (bs S)) (some (.int .i64 ((n1:Int)+(n2:Int)))) none none).run prog W=.ok (.string (bs (S.drop (n1+n2)))) W:=fun W=>by
       have:=ME prog W 9 underlying9 S (n1+n2) (by omega);rwa[Int.natCast_add] at this
      have ai:IntKind.i64.wrap ((n1:Int)+(n2:Int))=(n1:Int)+(n2:Int):=ET _ (by omega);have D7:(n1:Int)+(n2:Int)≤1000000000:=(by omega);have awn:(n1:Int)+(n2:Int)≤(S.length:Int):=(by omega);have awo:((n1:Int)+(n2:Int)).toNat=n1+n2:=(by omega);have YU:=Hi FU;have NC:=Hi GM;obtain⟨qo,co,rfl⟩:=Bo Bc.row;clear Bc hV hr Oz DK FU GM;go_wp2_with fail;refine(Ik _).mono ?_;rintro e w2⟨rfl,hb⟩;have BX:=Hi (Cg Bh.row hb);have HB:=Hi (Bh.AO.trans (hb.mono Bh.AO.size));clear hb;go_wp2_with fail;refine(Rx _).mono ?_;rintro e w3⟨rfl,hb⟩;have MS:=Hi (Cg BX hb);have Au:=bH HB hb;clear hb;go_wp2_with fail
      go_region_law
       ((refine step_append_lies _ (by rfl) _ _ _ (by rfl) w.heap.size 51 i0 _ 2 32 underlying30 Bl AY Ba Be (by rfl) (by omega) (.slice qo l.length co) l.length (Dm l) (by rfl) ((MS.alloc _).drew) ⟨w3.heap.size,0,none⟩ 1 1 [.string (bs k),.string (bs v)] (by rfl) (by rfl) (World.news_of_block (cs:=#[.string (bs k),.string (bs v)]) (t:=51) (fr:=(0,0)) (AQ w3 _)) (fun u hu=>by simp at hu;rcases hu with rfl|rfl<;>rfl) (by omega) (by have:=Bh.len;have:=Bh.le;unfold maxLen;omega) (by have:=Bh.len;have:=Bh.le;omega) (by have:=Au.size;rw[World.size_drew,Ay];omega) (w3.heap.size+1) (by simp) ?_;intro gg cap2 w4 OP AJ hat OJ))
      all_goals
       have YY:=Hi (show nP w s n (i+1) (S.drop (n1+n2)) (l++[(k,v)]) (.slice (some ⟨gg,0,none⟩) (l.length+1) cap2) w4 from
        ⟨by omega,by rw[AA,Bh.len];rfl,by rw[Ct];omega,by
         have:=Z4.out;rw[show 2*n -(2*i+1+1)=2*n -2*(i+1) by omega,List.drop_drop] at this;rw[this,aa0]
         congr 1
         funext q
         simp[flat],by unfold BJ;rw[AA,Td];exact OP,
         ((Au.alloc Au.size _).drew).grown AJ (by have:=Au.size;rw[World.size_drew,Ay];omega) (fun k e=>E9 MS e)⟩)
       clear OP AJ hat;go_wp2;go_roundw
       case rel=>
        first
        |exact⟨i+1,S.drop (n1+n2),l++[(k,v)],rfl,by go_num,YY⟩
        |(repeat apply Exists.intro
          refine⟨?_,rfl⟩;exact⟨i+1,S.drop (n1+n2),l++[(k,v)],rfl,by go_num,YY⟩)
       case measure=>
        show n -((i:Int)+1).toNat < n -((i:Int)).toNat
        omega
   ·obtain rfl:i=n:=(by omega);have Mw:Ez (2*i) (s.drop 2)=some (flat l,S):=by
     rw[Bc.read,Nat.sub_self];simp[Ez]
    have Z0:=Hi (show I1 s=if S=[]∧CU l then some l else none from by rw[Ep.out,Mw];simp only[CL];rw[vX]);obtain⟨qo,co,rfl,ZV,Zy⟩:=FH Bc.row;have YM:=Hi (amf (cap:=co) (Bf.CX Bc.row) (by have:=Bc.len;omega));clear Bc Mw;by_cases hS:S=[]
    ·subst hS;by_cases QU:CU l
     ·have hR:Hid (I1 s=some l):=Hi (by rw[Z0.out,Ad ⟨rfl,QU⟩]);rw[Ad QU] at YM;clear QU;go_wp2_with fail;refine YM.mono ?_;rintro e w2⟨rfl,hb⟩;have BX:=Hi (Cg Bh.row hb);have HB:=Hi (Bh.AO.trans (hb.mono Bh.AO.size));clear hb;go_wp2_with fail;exact EU (v:=.tuple #[.slice qo l.length co,.int .i64 0]) (by simp[results,results229,go_sem]) rfl (ayW hR.out rfl BX HB)
     ·have hR:Hid (I1 s=none):=Hi (by rw[Z0.out,Ab (fun h=>QU h.2)]);rw[Ab QU] at YM;clear QU;go_wp2_with fail;refine YM.mono ?_;rintro e w2⟨rfl,hb⟩;have HB:=Hi (Bh.AO.trans (hb.mono Bh.AO.size));clear hb;go_wp2_with fail;exact EU (v:=.tuple #[.slice none 0 0,.int .i64 7]) (by simp[results,results229,go_sem]) rfl (mo hR.out rfl HB)
    ·have hR:Hid (I1 s=none):=Hi (by rw[Z0.out,Ab (fun h=>hS h.1)]);have hne:S.isEmpty=false:=by
      cases S with
      |nil=>exact absurd rfl hS
      |cons=>rfl
     clear hS;go_wp2_with fail;exact EU (v:=.tuple #[.slice none 0 0,.int .i64 7]) (by simp[results,results229,go_sem]) rfl (mo hR.out rfl Bh.AO)
end Bt
section
open Go.Maps
theorem anf(l m:List (List UInt8))(a a':Option Addr)(cap cap':Nat)(w:World)(hl:Du w a l)(hm:Du w a' m)(h1:l.length≤maxLen)(h2:m.length≤maxLen):
  Calls prog 251 #[.slice a l.length cap,.slice a' m.length cap'] w fun e w'=>e=.returned (.bool (decide (l=m)))∧Bw w w':=by
 unfold maxLen at h1 h2;by_cases hlen:l.length=m.length
 ·have HL:=Hi hl;have HM:=Hi hm;have Fy:=Hi hlen;have rG:((l.length:Int) == (m.length:Int))=true:=by simp[hlen]
  have NM:((l.length:Int) != (m.length:Int))=false:=by simp[hlen]
  clear hl hm hlen
  go_in
  go_wp2
  go_loopw [5] (fun i wr=>∃ k:Nat,k≤l.length∧i=.int .i64 k∧l.take k=m.take k∧Bw w wr) (fun i _=>l.length -(intOf i).toNat)
  case atStart=>exact⟨0,by omega,rfl,rfl,Ai _ _⟩
  case round=>
   obtain⟨k,hk,rfl,ht,hb⟩:=hrel;have HT:=Hi ht;have HB:=Hi hb;clear ht hb;by_cases hlt:k < l.length
   ·have ajL:k < m.length:=(by rw[←Fy.out];exact hlt);obtain⟨q,Iu,hq⟩:=(HL.below HB).index cap k hlt;obtain⟨q',si,hq'⟩:=(HM.below HB).index cap' k ajL;have akA:l.take (k+1)=l.take k++[l[k]]:=Cx hlt;have akB:m.take (k+1)=m.take k++[m[k]]:=Cx ajL;have hne:l[k]≠m[k]→l≠m:=fun h e=>h (by subst e;rfl)
    have Uk:=Hi (Cw akA akB);have xX:=Hi hne;clear akA akB hne;generalize l[k]=x at*;generalize m[k]=y at*;by_cases J5:x=y
    ·subst J5;have HR:=Hi (show l.take (k+1)=m.take (k+1) by rw[Uk.1,Uk.2,HT.out]);go_wp2
     go_quiet (fail)
     go_wp2;go_roundw
     case rel=>exact⟨k+1,by omega,by go_num,HR,HB.trans ((FB wr _).mono HB.size)⟩
     case measure=>simp[intOf];omega
    ·have Aj:(x == y)=false:=(by simp[J5]);have Ac:(x != y)=true:=(by simp[J5]);have HR:=Hi (show decide (l=m)=false by simpa using xX J5);clear J5;go_wp2
     go_quiet (fail)
     go_wp2;go_ret;rw[HR.out];exact⟨rfl,HB.trans ((FB wr _).mono HB.size)⟩
   ·obtain rfl:k=l.length:=by omega
    have HR:=Hi (show decide (l=m)=true by
     have h:=HT.out;rw[Gu (Ae _),Gu (by rw[Fy.out];exact Ae _)] at h;simpa using h)
    go_wp2;go_ret;rw[HR.out];exact⟨rfl,HB⟩
 ·have rG:((l.length:Int) == (m.length:Int))=false:=by simp;omega
  have NM:((l.length:Int) != (m.length:Int))=true:=by simp;omega
  have HR:=Hi (show decide (l=m)=false by simp;exact fun e=>hlen (by rw[e]));clear hl hm hlen
  go_in
  go_wp2;go_ret;rw[HR.out];exact⟨rfl,Ai _ _⟩
end
section
open Go.WideShapes Go.ChangeShapes Go.Deep
structure aqA(w:World)(v:Value)(l:List (List UInt8)):Prop where
 at_:∃ a cap,v=.slice a l.length cap∧Du w a l∧(a=none→cap=0)
 len:l.length≤maxLen
 all:∀ s∈l,s.length≤reachBytes
theorem aBu{H:Type}{enc:TypeId×Value→H}{W:World}{base:Nat}{sp:Nat→Bool}{hd:Bool}{n:Nat}{cs:List Value}{y:DataW H×List MemPlace}
  (h:DataW.trod enc prog W base sp hd n 61 cs=some y)(hz:∀ n∈DataW.weights prog 61 y.1,n≤reachBytes):∃ v l,cs=[v]∧aqA W v l:=by
 rcases Go.Deep.open_slice underlying61 h with⟨rfl,_⟩|⟨a,len,cap,m,k,D,Pl,rfl,_,hl,hm,Ng,hx,hi⟩
 ·exact⟨_,[],rfl,⟨none,0,rfl,fun i hi=>by simp at hi,fun _=>rfl⟩,by simp,by simp⟩
 ·have hC:prog.cellsOf 9=1:=by kernel_rfl
  rw[hC] at hi;have Ty:len≤m:=by rw[Ng];split<;>omega
  obtain⟨l,El,hP⟩:=lQ (P:=fun i (x:List UInt8)=>W.cell? (a.add i)=some (.string (bs x))∧x.length≤reachBytes) len (fun i Jl=>by
   obtain⟨cs',h1,h2⟩:=hi i (by omega);obtain⟨_,Gm,hat⟩:=World.cells?_some h1;obtain⟨v,e1,e2,_⟩:=DataW.trod_string underlying9 h2;subst e1;refine⟨v.data.toList,?_,?_⟩
   ·have:=hat 0 (by omega);rw[add_zero',Nat.mul_one] at this;rw[this];rfl
   ·refine hz _ ?_;have hD:D i=.lit (.string v.data.toList):=congrArg Prod.fst e2;rw[hx];simp only[DataW.weights,underlying61];exact F9 _ (U2 _ (wH (Bz.2 ⟨i,List.mem_range.2 Jl,rfl⟩) (by rw[hD];simp[DataW.weights]))))
  refine⟨_,l,rfl,⟨some a,cap,by rw[El],fun i Jl=>⟨a,rfl,(hP i Jl).1⟩,fun e=>by cases e⟩,by omega,fun x V9=>?_⟩;obtain⟨i,Jl,rfl⟩:=Sy V9;exact(hP i Jl).2
end
section
open Go.Maps
open Av
theorem aCg{s:List UInt8}{j:Nat}(h:j < s.length):A9.val (s.drop j)=s[j].toNat+256*A9.val (s.drop (j+1)):=by
 rw[Rk h];rfl
theorem aCh(s:List UInt8)(j:Nat)(h:s.length≤8)(hj:j+1≤s.length):256*A9.val (s.drop (j+1))+256≤18446744073709551616:=by
 have h1:=A9.JS (s.drop (j+1));have h2:256 ^ (s.drop (j+1)).length≤256 ^ 7:=Nat.pow_le_pow_right (by decide) (by rw[Ct];omega);have h3:(256:Nat) ^ 7=72057594037927936:=by decide
 omega
theorem adW(s:List UInt8)(w:World)(h8:s.length≤8):
  Calls prog 276 #[.string (bs s)] w fun e w'=>e=.returned (.int .u64 (A9.val s:Nat))∧w=w':=by
 go_in
 go_wp2
 go_loop [3,4] (fun v i=>∃ j:Nat,j≤s.length∧i=.int .i64 ((j:Int) -1)∧v=.int .u64 (A9.val (s.drop j):Nat)) (fun _ i=>(intOf i+1).toNat)
 case atStart=>exact⟨s.length,by omega,rfl,by rw[List.drop_length];rfl⟩
 case round=>
  obtain⟨j,hj,rfl,rfl⟩:=hrel;cases j with
  |zero=>
   rw[List.drop_zero];go_wp2;go_ret;exact⟨rfl,rfl⟩
  |succ j=>
   have e:((j+1:Nat):Int) -1=(j:Int):=(by omega);have hlt:j < s.length:=(by omega);have hv:=aCg hlt;have hb:=aCh s j h8 (by omega);have hc:=s[j].toNat_lt;simp only[e];clear e;have HV:=Hi hv;generalize A9.val (s.drop (j+1))=V at*;have w1:IntKind.u64.wrap ((V:Int)*256)=(V:Int)*256:=IntWalk.u64_in _ (by omega);have w2:IntKind.u64.wrap ((s[j].toNat:Int))=(s[j].toNat:Int):=IntWalk.u64_in _ (by omega);have w3:IntKind.u64.wrap ((V:Int)*256+(s[j].toNat:Int))=(V:Int)*256+(s[j].toNat:Int):=IntWalk.u64_in _ (by omega);clear hv hb;go_wp2
   go_round
   case rel=>exact⟨j,by omega,rfl,by rw[HV.out];congr 1;omega⟩
   case measure=>simp[intOf]
theorem mO(s:List UInt8)(w:World)(h:s.length≤65535):
  Calls prog 244 #[.string (bs s)] w fun e w'=>e=.returned (.tuple #[.string (bs (A9.le 2 s.length++s)),.int .i64 0])∧Bw w w':=by
 go_in
 go_wp2_with fail;refine(uJ s.length 2 _ (by omega) (by decide)).mono ?_;rintro e w1⟨rfl,hb⟩;go_wp2;go_ret2;exact⟨rfl,hb⟩
theorem mM(s:List UInt8)(w:World)(h:65535 < s.length):
  Calls prog 244 #[.string (bs s)] w fun e w'=>e=.returned (.tuple #[.string (bs []),.int .i64 5])∧w=w':=by
 go_in
 go_wp2;go_ret2;exact⟨rfl,rfl⟩
theorem vE(s:List UInt8)(w:World)(hl:s.length≤1099511627776):
  Calls prog 277 #[.string (bs s)] w fun e w'=>e=.returned (.tuple #[.string (bs (Fw s).1),.int .i64 ((Fw s).2.1:Nat),.int .i64 (Fw s).2.2])∧w=w':=by
 by_cases h2:s.length < 2
 ·have hR:Hid (Fw s=([],0,6)):=Hi (by unfold Fw Fv;rw[Ad h2]);rw[hR.out]
  go_in
  go_wp2;go_ret3;exact⟨rfl,rfl⟩
 ·have GY:∀ W,(Instr.slice 9 (.string (bs s)) none (some (.int .i64 2)) none).run prog W=.ok (.string (bs (s.take 2))) W:=fun W=>O7 prog W 9 underlying9 s 2 (by omega)
  have OJ:(s.take 2).length=2:=by rw[AZ];omega
  have J4:=A9.JS (s.take 2);rw[OJ] at J4;have RY:=fun(W:World)=>adW (s.take 2) W (by omega)
  have hR:Fw s=if 2+A9.val (s.take 2)≤s.length then((s.take (2+A9.val (s.take 2))).drop 2,2+A9.val (s.take 2),0) else([],0,6):=by
   unfold Fw Fv;rw[Ab h2];by_cases hq:2+A9.val (s.take 2)≤s.length
   ·rw[Ad hq,Ad hq]
   ·rw[Ab hq,Ab hq]
  generalize A9.val (s.take 2)=v at*;have hv3:v < 65536:=J4;have Zc:=Hi RY;have HR:=Hi hR;have e2:IntKind.i64.wrap (v:Int)=(v:Int):=ET _ (by omega);clear OJ J4 RY hR;by_cases h3:2+v≤s.length
  ·have hcu:∀ W,(Instr.slice 9 (.string (bs s)) (some (.int .i64 2)) (some (.int .i64 (2+(v:Int)))) none).run prog W=.ok (.string (bs ((s.take (2+v)).drop 2))) W:=fun W=>by
    have:=gD prog W 9 underlying9 s 2 (2+v) (by omega) h3;rw[Int.natCast_add] at this;exact this
   have BX:=Hi (HR.trans (Ad h3))
   go_in
   go_wp2_with fail;refine(Zc _).mono ?_;rintro e w1⟨rfl,rfl⟩;go_wp2;go_ret3;rw[BX.out];exact⟨rfl,rfl⟩
  ·have BX:=Hi (HR.trans (Ab h3))
   go_in
   go_wp2_with fail;refine(Zc _).mono ?_;rintro e w1⟨rfl,rfl⟩;go_wp2;go_ret3;rw[BX.out];exact⟨rfl,rfl⟩
def pE(l:List (List UInt8))(k:Nat)(v:Value):Prop:=∃ S,v=.string (bs (A9.le 2 l.length++S))∧BK (l.take k)=some S
theorem pE.next{l:List (List UInt8)}{k:Nat}{S x:List UInt8}(h:BK (l.take (k+1))=(Eg x).map (S++ ·))(hx:x.length≤65535){v:Value}(hv:v=.string (bs (A9.le 2 l.length++(S++(A9.le 2 x.length++x))))):pE l (k+1) v:=
 ⟨S++(A9.le 2 x.length++x),hv,by rw[h];unfold Eg;rw[Ad hx];rfl⟩
theorem aA7(s:List UInt8)(w:World)(hs:s.length≤1000000000):
  Calls prog 250 #[.string (bs s)] w fun e w'=>Mj w s e w':=by
 by_cases h2:s.length < 2
 ·have hR:Hid (Dp s=none):=Hi (by unfold Dp;rw[Ad h2])
  go_in
  go_wp2;go_ret2;exact M0 hR.out rfl (Ai _ _)
 ·have GY:∀ W,(Instr.slice 9 (.string (bs s)) none (some (.int .i64 2)) none).run prog W=.ok (.string (bs (s.take 2))) W:=fun W=>O7 prog W 9 underlying9 s 2 (by omega)
  have K8:∀ W,(Instr.slice 9 (.string (bs s)) (some (.int .i64 2)) none none).run prog W=.ok (.string (bs (s.drop 2))) W:=fun W=>ME prog W 9 underlying9 s 2 (by omega)
  have OJ:(s.take 2).length=2:=by rw[AZ];omega
  have J4:=A9.JS (s.take 2);rw[OJ] at J4;have RY:=fun(W:World)=>adW (s.take 2) W (by omega)
  have FX:Dp s=(Ez (A9.val (s.take 2)) (s.drop 2)).bind fun q=>if q.2=[] then some q.1 else none:=by unfold Dp;rw[Ab h2]
  generalize A9.val (s.take 2)=n at*;have hn3:n < 65536:=J4;have Zc:=Hi RY;have Ep:=Hi FX;have e2:IntKind.i64.wrap (n:Int)=(n:Int):=ET _ (by omega);clear OJ J4 RY FX
  go_in
  go_wp2_with fail;refine(Zc _).mono ?_;rintro e w1⟨rfl,rfl⟩;go_wp2
  go_loopw [0,5,6] (fun sv lv i wr=>∃ (j:Nat) (S:List UInt8) (l:List (List UInt8)),j≤n∧i=.int .i64 j∧sv=.string (bs S)∧wr.ownsRow 0 9 1 lv l.length (strCells l)∧l.length=j∧S.length≤s.length∧Bw w wr∧(∀ g,lv.ownBlock=some g→w.heap.size≤g)∧Ez n (s.drop 2)=(Ez (n -j) S).map fun q=>(l++q.1,q.2)) (fun _ _ i _=>n -(intOf i).toNat)
  case atStart=>exact⟨0,s.drop 2,[],by omega,rfl,rfl,by rw[mR];exact DZ _ _ _ _,rfl,by rw[Ct];omega,Ai _ _,fun g e=>by simp[Value.ownBlock] at e,by simp⟩
  case round=>
   obtain⟨j,S,l,hj,rfl,rfl,hown,El,Zr,hb,OL,Mw⟩:=hrel;have HO:=Hi hown;have HB:=Hi hb;have HN:=Hi OL;have EZ:=Hi Mw;have NB:=Hi El;obtain⟨qv,cv,rfl⟩:=Bo hown;clear hown hb OL Mw El GY K8;by_cases hlt:j < n
   ·cases hr:Fv S with
    |none=>
     have hR:Hid (Dp s=none):=Hi (by rw[Ep.out,fZ hlt EZ hr];rfl);have hRV:Hid (Fw S=([],0,6)):=Hi (by unfold Fw;rw[hr]);clear hr;go_wp2_with fail;refine(vE S _ (by omega)).mono ?_;rw[hRV.out];rintro e w2⟨rfl,rfl⟩;go_wp2;go_ret2;exact M0 hR.out rfl HB.out
    |some r=>
     obtain⟨t,m⟩:=r;have hRV:Hid (Fw S=(t,m,0)):=Hi (by unfold Fw;rw[hr]);have Z4:=Hi (gm hlt EZ hr);obtain⟨_,hmS,_⟩:=aM hr;have hcut:∀ W,(Instr.slice 9 (.string (bs S)) (some (.int .i64 (m:Int))) none none).run prog W=.ok (.string (bs (S.drop m))) W:=fun W=>ME prog W 9 underlying9 S m hmS
     obtain⟨i0,Bl,AY,Ba,Be⟩:=DC TV;have PY:l.length≤65536:=(by have:=NB.out;omega);clear hr;go_wp2_with fail;refine(vE S _ (by omega)).mono ?_;rw[hRV.out];rintro e w2⟨rfl,rfl⟩
     go_wp2_with (
      at_builtin
      refine wpList_append_own_at _ rfl _ _ _ rfl 0 9 i0 _ 1 16 underlying61 Bl AY Ba Be rfl (by omega) (.slice qv l.length cv) l.length (strCells l) rfl (HO.alloc _) ⟨wr.heap.size,0,none⟩ 1 1 [.string (bs t)] rfl rfl (World.news_of_block (cs:=#[.string (bs t)]) (t:=9) (fr:=(0,0)) (AQ wr _)) (fun u hu=>by rw[FJ] at hu;subst hu;rfl) (by unfold maxLen;omega) (by omega) (AV _) ?_;intro v' w6 hown AJ _ hat;have HO6:=Hi (show w6.ownsRow 0 9 1 v' (l++[t]).length (strCells (l++[t])) by rw[Sn,AA];exact hown);have EC:=Hi ((HB.alloc HB.size (.cells #[.string (bs t)] 9)).grown AJ (Aw HB.size (by rw[Ay];omega)) HN)
      have HN6:=Hi (show ∀ g,v'.ownBlock=some g→w.heap.size≤g from fun g hg=>by
       rcases hat with hat|hat
       ·rw[hat] at hg;exact HN g hg
       ·rw[hat] at hg;have:=GQ hg;rw[Ay] at this;have:=HB.size;omega)
      clear hown AJ hat)
     go_roundw
     case rel=>exact⟨j+1,S.drop m,l++[t],by omega,by go_num,rfl,HO6,by rw[AA,NB.out];rfl,by rw[Ct];omega,EC,HN6,Z4⟩
     case measure=>simp[intOf];omega
   ·obtain rfl:j=n:=(by omega);by_cases hS:S=[]
    ·subst hS;have hR:Hid (Dp s=some l):=Hi (by rw[Ep.out,EZ.out,Nat.sub_self];simp[Ez]);go_wp2;go_ret2;exact mJ hR.out rfl HO HB HN.out
    ·have hR:Hid (Dp s=none):=Hi (by rw[Ep.out,EZ.out,Nat.sub_self];simp[Ez,hS]);have hne:S.isEmpty=false:=by
      cases S with
      |nil=>exact absurd rfl hS
      |cons=>rfl
     clear hS;go_wp2;go_ret2;exact M0 hR.out rfl HB.out
end
section
open Go.Maps
open Ag Ar
section
variable {w w':World}
structure EF(w W:World)(ov:Value)(m:Nat)(o:M)(c:Am)(gn:Bool):Prop where
 row:W.ownsRow (w.heap.size+1) 274 2 ov m (Dm o)
 AO:Bw w W
 box:W.heap[w.heap.size]?=some (.cells #[.string (bs c.name),.string (bs c.data),.bool gn] 57)
theorem EF.drew{W:World}{ov:Value}{m:Nat}{o:M}{c:Am}{gn:Bool}(h:EF w W ov m o c gn):EF w W.drew ov m o c gn:=⟨h.row.drew,h.AO.drew,h.box⟩
theorem EF.add{W W2:World}{ov v2:Value}{m:Nat}{o:M}{c:Am}{gn:Bool}{ob:Obj}{a b:T}(h:EF w W ov m o c gn)(hg:(W.alloc ob).grownBy W2 ov.ownBlock)(ho:W2.ownsRow (w.heap.size+1) 274 2 v2 (m+1) (Dm o++[.string (bs a),.string (bs b)])):EF w W2 v2 (m+1) (o++[(a,b)]) c gn:=by
 have hlt:=Ao h.box;have BQ:(W.alloc ob).heap.size=W.heap.size+1:=Ay _ _;refine⟨by rw[Td];exact ho,(h.AO.alloc h.AO.size ob).grown hg (by omega) (fun j hj=>by have:=E9 h.row hj;omega),?_⟩;exact(hg.block w.heap.size (by omega) (row_ne_low h.row (Nat.lt_succ_self w.heap.size))).trans (((AU W ob).block _ hlt).trans h.box)
theorem amw(c:Am)(d:Bool)(p:T×T)(l:M):FI c d (p :: l)=(if d=false∧¬ p.1 < c.name then[(c.name,c.data)] else[])++((if p.1=c.name then[] else[p])++FI c (d || !decide (p.1 < c.name)) l):=rfl
theorem aA6{q:Option Addr}{cap:Nat}{A:M}(c:Am)(h:Mc w 0 (.slice q A.length cap) A)(hu:Up A)(hl:A.length≤1000000):
  Calls prog 197 #[.slice q A.length cap,.agg #[.string (bs c.name),.string (bs c.data),.bool c.gone]] w fun e w'=>∃ v,e=.returned v∧Mc w' w.heap.size v (Am.on A c)∧Bw w w':=by
 obtain⟨i0,Bl,AY,Ba,Be⟩:=DC asU;have HR:=Hi h;have HE:=Hi (amy (c:=c) hu);have ED:=Hi (AU w (.cells #[.string (bs c.name),.string (bs c.data),.bool c.gone] 57));have WX:=Hi (AQ w (.cells #[.string (bs c.name),.string (bs c.data),.bool c.gone] 57));obtain⟨gn,ZE⟩:=ex (c.gone);rw[ZE] at HE ED WX ⊢;clear h hu ZE
 go_in
 go_wp2
 go_loopw [5,6,7] (fun ov dv i wr=>∃ (k m:Nat) (o:M) (d:Bool),k≤A.length∧o.length=m∧m≤2*k∧i=.int .i64 (k:Int)∧dv=.bool d∧o++FI c d (A.drop k)=FI c gn A∧EF w wr ov m o c gn)
  (fun _ _ i _=>A.length -(intOf i).toNat)
 case atStart=>exact⟨0,0,[],gn,AV _,rfl,AV _,rfl,rfl,by rw[List.drop_zero];rfl,⟨by rw[QC];exact DZ _ _ _ _,ED,WX⟩⟩
 case round=>
  obtain⟨k,m,o,d,hk,kW,LJ,rfl,rfl,FV,Bc⟩:=hrel;obtain⟨oq,Iz,rfl⟩:=Bo Bc.row;have Im:=Hi Bc;have MR:=Hi kW;clear ED WX kW;by_cases hlt:k < A.length
  ·obtain⟨p,Iu,LQ,Fs⟩:=(Mc.index (Bv HR (ub Bc.AO) (fun _ _ f=>f)) hlt)
   have HP:=Hi (fun(W:World) (hW:Bw w W)=>(show W.cell? p=some (.string (bs A[k].1))∧W.cell? ⟨p.block,p.off+1,none⟩=some (.string (bs A[k].2)) from by
    obtain⟨p',si,aby,abz⟩:=(Mc.index (Bv HR (ub hW) (fun _ _ f=>f)) hlt);have e:=Iu W;rw[si W] at e;injection e with e
    injection e with e
    injection e with e
    subst e;exact⟨aby,abz⟩))
   obtain⟨b0,b1,b2,_,_,_⟩:=O6 Bc.box;have hd:=Rk hlt;rw[hd,amw] at FV;obtain⟨x1,Em⟩:=ex (A[k].1);obtain⟨x2,Ec⟩:=ex (A[k].2);rw[show A[k]=(x1,x2) from Prod.ext Em Ec] at FV;rw[Em] at LQ HP;rw[Ec] at Fs HP;have KG:=Hi FV;clear hd Em Ec FV Bc;by_cases h1:x1 < c.name
   ·
    cases d with
    |false=>
     have CP:Op.bytesLess x1 c.name=true:=(by rw[Go.Proofs.bytesLess_eq];simpa using h1);have hne:(x1 == c.name)=false:=(by simpa using KZ h1);have HN:=Hi (show(o++[(x1,x2)])++FI c false (A.drop (k+1))=FI c gn A by rw[←KG.out];simp[h1,KZ h1]);clear h1;go_wp2;go_region;have BU:=Hi Im.drew;clear b0 b1 b2 LQ Fs;generalize wr.drew=W1 at BU ⊢;obtain⟨b0,b1,b2,_,_,_⟩:=O6 BU.box;obtain⟨p0,p1⟩:=HP _ BU.AO;go_wp2;go_region;have BZ:=Hi BU.drew;clear b0 b1 b2 p0 p1;generalize W1.drew=W2 at BZ ⊢;obtain⟨b0,b1,b2,_,_,_⟩:=O6 BZ.box;obtain⟨p0,p1⟩:=HP _ BZ.AO;go_wp2_with (at_builtin;refine wpList_append_own_at _ rfl _ _ 172 rfl (w.heap.size+1) 274 i0 _ 2 32 underlying172 Bl AY Ba Be rfl (by decide) (.slice oq m Iz) m _ rfl (BZ.row.alloc _) ⟨W2.heap.size,0,none⟩ 1 1 [.string (bs x1),.string (bs x2)] rfl rfl (by intro j u hj;rw[add_plain,E5];exact(Dy▸hj)) (by simp[Value.oneCell']) (by unfold maxLen;omega) (by omega) (by rw[Ay];have:=Ao BZ.box;omega) ?_;intro v2 w2 Dn Ef _ _;obtain⟨g2,cap2,rfl⟩:=ownsRow_succ Dn;have Hf:=Hi (BZ.add Ef Dn);clear Dn Ef);go_roundw
     case rel=>exact⟨k+1,m+1,o++[(x1,x2)],false,by omega,by simp[MR.out],by omega,by go_num,rfl,HN,Hf⟩
     case measure=>simp[intOf];omega
    |true=>
     have CP:Op.bytesLess x1 c.name=true:=(by rw[Go.Proofs.bytesLess_eq];simpa using h1);have hne:(x1 == c.name)=false:=(by simpa using KZ h1);have HN:=Hi (show(o++[(x1,x2)])++FI c true (A.drop (k+1))=FI c gn A by rw[←KG.out];simp[h1,KZ h1]);clear h1;go_wp2;go_region;have BU:=Hi Im.drew;clear b0 b1 b2 LQ Fs;generalize wr.drew=W1 at BU ⊢;obtain⟨b0,b1,b2,_,_,_⟩:=O6 BU.box;obtain⟨p0,p1⟩:=HP _ BU.AO;go_wp2;go_region;have BZ:=Hi BU.drew;clear b0 b1 b2 p0 p1;generalize W1.drew=W2 at BZ ⊢;obtain⟨b0,b1,b2,_,_,_⟩:=O6 BZ.box;obtain⟨p0,p1⟩:=HP _ BZ.AO;go_wp2_with (at_builtin;refine wpList_append_own_at _ rfl _ _ 172 rfl (w.heap.size+1) 274 i0 _ 2 32 underlying172 Bl AY Ba Be rfl (by decide) (.slice oq m Iz) m _ rfl (BZ.row.alloc _) ⟨W2.heap.size,0,none⟩ 1 1 [.string (bs x1),.string (bs x2)] rfl rfl (by intro j u hj;rw[add_plain,E5];exact(Dy▸hj)) (by simp[Value.oneCell']) (by unfold maxLen;omega) (by omega) (by rw[Ay];have:=Ao BZ.box;omega) ?_;intro v2 w2 Dn Ef _ _;obtain⟨g2,cap2,rfl⟩:=ownsRow_succ Dn;have Hf:=Hi (BZ.add Ef Dn);clear Dn Ef);go_roundw
     case rel=>exact⟨k+1,m+1,o++[(x1,x2)],true,by omega,by simp[MR.out],by omega,by go_num,rfl,HN,Hf⟩
     case measure=>simp[intOf];omega
   ·by_cases h2:x1=c.name
    ·
     cases d with
     |false=>
      have CP:Op.bytesLess x1 c.name=false:=(by rw[Go.Proofs.bytesLess_eq];simpa using h1);have hne:(x1 == c.name)=true:=(by simpa using h2);have HN:=Hi (show(o++[(c.name,c.data)])++FI c true (A.drop (k+1))=FI c gn A by rw[←KG.out];simp[h2,Sc]);clear h1 h2;go_wp2;go_region;have BU:=Hi Im.drew;clear b0 b1 b2 LQ Fs;generalize wr.drew=W1 at BU ⊢;obtain⟨b0,b1,b2,_,_,_⟩:=O6 BU.box;obtain⟨p0,p1⟩:=HP _ BU.AO;go_wp2_with (at_builtin;refine wpList_append_own_at _ rfl _ _ 172 rfl (w.heap.size+1) 274 i0 _ 2 32 underlying172 Bl AY Ba Be rfl (by decide) (.slice oq m Iz) m _ rfl (BU.row.alloc _) ⟨W1.heap.size,0,none⟩ 1 1 [.string (bs c.name),.string (bs c.data)] rfl rfl (by intro j u hj;rw[add_plain,E5];exact(Dy▸hj)) (by simp[Value.oneCell']) (by unfold maxLen;omega) (by omega) (by rw[Ay];have:=Ao BU.box;omega) ?_;intro v1 w1 DI Nb _ _;obtain⟨g1,VR,rfl⟩:=ownsRow_succ DI;have Je:=Hi (BU.add Nb DI);clear DI Nb);have BZ:=Hi Je.drew;obtain⟨e0,e1,e2,_,_,_⟩:=O6 Je.box;obtain⟨r0,r1⟩:=HP _ Je.AO;go_wp2;go_region;clear b0 b1 b2 p0 p1 e0 e1 e2 r0 r1;generalize w1.drew=W2 at BZ ⊢;obtain⟨b0,b1,b2,_,_,_⟩:=O6 BZ.box;obtain⟨p0,p1⟩:=HP _ BZ.AO;go_wp2;go_roundw
      case rel=>exact⟨k+1,m+1,o++[(c.name,c.data)],true,by omega,by simp[MR.out],by omega,by go_num,rfl,HN,BZ⟩
      case measure=>simp[intOf];omega
     |true=>
      have CP:Op.bytesLess x1 c.name=false:=(by rw[Go.Proofs.bytesLess_eq];simpa using h1);have hne:(x1 == c.name)=true:=(by simpa using h2);have HN:=Hi (show(o)++FI c true (A.drop (k+1))=FI c gn A by rw[←KG.out];simp[h2]);clear h1 h2;go_wp2;go_region;have BU:=Hi Im.drew;clear b0 b1 b2 LQ Fs;generalize wr.drew=W1 at BU ⊢;obtain⟨b0,b1,b2,_,_,_⟩:=O6 BU.box;obtain⟨p0,p1⟩:=HP _ BU.AO;go_wp2;go_region;have BZ:=Hi BU.drew;clear b0 b1 b2 p0 p1;generalize W1.drew=W2 at BZ ⊢;obtain⟨b0,b1,b2,_,_,_⟩:=O6 BZ.box;obtain⟨p0,p1⟩:=HP _ BZ.AO;go_wp2;go_roundw
      case rel=>exact⟨k+1,m,o,true,by omega,by simp[MR.out],by omega,by go_num,rfl,HN,BZ⟩
      case measure=>simp[intOf];omega
    ·
     cases d with
     |false=>
      have CP:Op.bytesLess x1 c.name=false:=(by rw[Go.Proofs.bytesLess_eq];simpa using h1);have hne:(x1 == c.name)=false:=(by simpa using h2);have HN:=Hi (show((o++[(c.name,c.data)])++[(x1,x2)])++FI c true (A.drop (k+1))=FI c gn A by rw[←KG.out];simp[h1,h2]);clear h1 h2;go_wp2;go_region;have BU:=Hi Im.drew;clear b0 b1 b2 LQ Fs;generalize wr.drew=W1 at BU ⊢;obtain⟨b0,b1,b2,_,_,_⟩:=O6 BU.box;obtain⟨p0,p1⟩:=HP _ BU.AO;go_wp2_with (at_builtin;refine wpList_append_own_at _ rfl _ _ 172 rfl (w.heap.size+1) 274 i0 _ 2 32 underlying172 Bl AY Ba Be rfl (by decide) (.slice oq m Iz) m _ rfl (BU.row.alloc _) ⟨W1.heap.size,0,none⟩ 1 1 [.string (bs c.name),.string (bs c.data)] rfl rfl (by intro j u hj;rw[add_plain,E5];exact(Dy▸hj)) (by simp[Value.oneCell']) (by unfold maxLen;omega) (by omega) (by rw[Ay];have:=Ao BU.box;omega) ?_;intro v1 w1 DI Nb _ _;obtain⟨g1,VR,rfl⟩:=ownsRow_succ DI;have Je:=Hi (BU.add Nb DI);clear DI Nb);have BZ:=Hi Je.drew;obtain⟨e0,e1,e2,_,_,_⟩:=O6 Je.box;obtain⟨r0,r1⟩:=HP _ Je.AO;go_wp2;go_region;clear b0 b1 b2 p0 p1 e0 e1 e2 r0 r1;generalize w1.drew=W2 at BZ ⊢;obtain⟨b0,b1,b2,_,_,_⟩:=O6 BZ.box;obtain⟨p0,p1⟩:=HP _ BZ.AO
      go_wp2_with (at_builtin;refine wpList_append_own_at _ rfl _ _ 172 rfl (w.heap.size+1) 274 i0 _ 2 32 underlying172 Bl AY Ba Be rfl (by decide) (.slice (some ⟨g1,0,none⟩) (m+1) VR) (m+1) _ rfl (BZ.row.alloc _) ⟨W2.heap.size,0,none⟩ 1 1 [.string (bs x1),.string (bs x2)] rfl rfl (by intro j u hj;rw[add_plain,E5];exact(Dy▸hj)) (by simp[Value.oneCell']) (by unfold maxLen;omega) (by omega) (by rw[Ay];have:=Ao BZ.box;omega) ?_;intro v2 w2 Dn Ef _ _;obtain⟨g2,cap2,rfl⟩:=ownsRow_succ Dn;have Hf:=Hi (BZ.add Ef Dn);clear Dn Ef);go_roundw
      case rel=>exact⟨k+1,m+1+1,(o++[(c.name,c.data)])++[(x1,x2)],true,by omega,by simp[MR.out],by omega,by go_num,rfl,HN,Hf⟩
      case measure=>simp[intOf];omega
     |true=>
      have CP:Op.bytesLess x1 c.name=false:=(by rw[Go.Proofs.bytesLess_eq];simpa using h1);have hne:(x1 == c.name)=false:=(by simpa using h2);have HN:=Hi (show(o++[(x1,x2)])++FI c true (A.drop (k+1))=FI c gn A by rw[←KG.out];simp[h2]);clear h1 h2;go_wp2;go_region;have BU:=Hi Im.drew;clear b0 b1 b2 LQ Fs;generalize wr.drew=W1 at BU ⊢;obtain⟨b0,b1,b2,_,_,_⟩:=O6 BU.box;obtain⟨p0,p1⟩:=HP _ BU.AO;go_wp2;go_region;have BZ:=Hi BU.drew;clear b0 b1 b2 p0 p1;generalize W1.drew=W2 at BZ ⊢;obtain⟨b0,b1,b2,_,_,_⟩:=O6 BZ.box;obtain⟨p0,p1⟩:=HP _ BZ.AO;go_wp2_with (at_builtin;refine wpList_append_own_at _ rfl _ _ 172 rfl (w.heap.size+1) 274 i0 _ 2 32 underlying172 Bl AY Ba Be rfl (by decide) (.slice oq m Iz) m _ rfl (BZ.row.alloc _) ⟨W2.heap.size,0,none⟩ 1 1 [.string (bs x1),.string (bs x2)] rfl rfl (by intro j u hj;rw[add_plain,E5];exact(Dy▸hj)) (by simp[Value.oneCell']) (by unfold maxLen;omega) (by omega) (by rw[Ay];have:=Ao BZ.box;omega) ?_;intro v2 w2 Dn Ef _ _;obtain⟨g2,cap2,rfl⟩:=ownsRow_succ Dn;have Hf:=Hi (BZ.add Ef Dn);clear Dn Ef);go_roundw
      case rel=>exact⟨k+1,m+1,o++[(x1,x2)],true,by omega,by simp[MR.out],by omega,by go_num,rfl,HN,Hf⟩
      case measure=>simp[intOf];omega
  ·obtain rfl:k=A.length:=(by omega);rw[List.drop_length] at FV;obtain⟨b0,b1,b2,_,_,_⟩:=O6 Bc.box;clear Bc;cases d with
   |false=>
    have HN:=Hi (show o++[(c.name,c.data)]=Am.on A c by rw[←HE.out,←FV];rfl);clear FV;go_wp2_with (at_builtin;refine wpList_append_own_at _ rfl _ _ 172 rfl (w.heap.size+1) 274 i0 _ 2 32 underlying172 Bl AY Ba Be rfl (by decide) (.slice oq m Iz) m _ rfl (Im.row.alloc _) ⟨wr.heap.size,0,none⟩ 1 1 [.string (bs c.name),.string (bs c.data)] rfl rfl (by intro j u hj;rw[add_plain,E5];exact(Dy▸hj)) (by simp[Value.oneCell']) (by unfold maxLen;omega) (by omega) (by rw[Ay];have:=Ao Im.box;omega) ?_;intro v0 w0 Jn ZC _ _;obtain⟨g0,cap0,rfl⟩:=ownsRow_succ Jn;have Xd:=Hi (Im.add ZC Jn);clear Jn ZC);go_ret;refine⟨_,rfl,?_,Xd.AO⟩;rw[←HN.out];unfold Mc;rw[AA,MR.out];exact Mc.acz Xd.row (by omega)
   |true=>
    have HN:=Hi (show o=Am.on A c by rw[←HE.out,←FV];exact(Ea o).symm);clear FV;go_wp2;go_ret;refine⟨_,rfl,?_,Im.AO⟩;rw[←HN.out];unfold Mc;rw[MR.out];exact Mc.acz Im.row (by omega)
end
end
section
open Go.Maps
open Ag Ar
section
variable {w w':World}
theorem aC7(A:M)(k:Nat)(h:k < A.length):used (A.take (k+1))=used (A.take k)+8+A[k].1.length+A[k].2.length:=by
 unfold used;rw[Cx h,CK,Lg];simp[cost];omega
theorem aor(A:M)(k:Nat):used (A.take k)≤used A:=by
 unfold used;have:((A.take k).map cost).sum+((A.drop k).map cost).sum=(A.map cost).sum:=by rw[←Lg,←CK,MK]
 omega
theorem adi{q:Option Addr}{cap:Nat}{A:M}(h:Mc w 0 (.slice q A.length cap) A)(hc:used A≤1000000000):
  Calls prog 120 #[.slice q A.length cap] w fun e w'=>e=.returned (.int .i64 (used A:Nat))∧Bw w w':=by
 have HR:=Hi h;have I9:=Rf A;clear h
 go_in
 go_wp2
 go_loopw [3,4] (fun n i wr=>∃ k:Nat,k≤A.length∧i=.int .i64 (k:Int)∧n=.int .i64 (used (A.take k):Nat)∧Bw w wr) (fun _ i _=>A.length -(intOf i).toNat)
 case atStart=>exact⟨0,AV _,rfl,rfl,Ai _ _⟩
 case round=>
  obtain⟨k,hk,rfl,rfl,hb⟩:=hrel;have HB:=Hi hb;have hut:=aor A k;by_cases hlt:k < A.length
  ·obtain⟨p,Iu,LQ,Fs⟩:=Mc.index (Bv HR (ub hb) (fun _ _ f=>f)) hlt;have FM:=aC7 A k hlt;have Et:=aor A (k+1);have Fz:=Hi FM;obtain⟨x1,Em⟩:=ex (A[k].1);obtain⟨x2,Ec⟩:=ex (A[k].2);rw[Em] at LQ;rw[Ec] at Fs;rw[Em,Ec] at Fz FM;obtain⟨U,hU⟩:=ex (used (A.take k));rw[hU] at Fz FM hut ⊢;have Aj:U+8+x1.length+x2.length≤1000000000:=(by omega);clear hb Em Ec hU FM Et hut;go_wp2;go_region;all_goals
    go_wp2;go_roundw
    case rel=>exact⟨k+1,by omega,by go_num,by rw[Fz.out];congr 1,HB.drew⟩
    case measure=>simp[intOf];omega
  ·obtain rfl:k=A.length:=(by omega);rw[Da];go_wp2;go_ret;exact⟨rfl,HB⟩
theorem anq{r cap:Nat}{a:Option Addr}{v:Value}{A:M}{most:Int}{l:List Am}(h:Hz w r v A most)(hu:Up A)(hl:Eb w a l)(hA:A.length≤500000)(El:l.length≤500000):
  Calls prog 119 #[.pointer (some ⟨r,0,none⟩),.slice a l.length cap] w fun e w'=>∃ v',e=.returned v'∧Mc w' 0 v' (made A l)∧Bw w w':=by
 have c0:w.cell? ⟨r,0,none⟩=some v:=cr h.1;have HR:=Hi h.2;have HL:=Hi hl;clear h hl
 go_in
 go_wp2_with fail;clear c0
 go_loopw [5,6] (fun ov i wr=>∃ (k:Nat) (F:M),k≤l.length∧F=made A (l.take k)∧i=.int .i64 (k:Int)∧Mc wr 0 ov F∧Bw w wr) (fun _ i _=>l.length -(intOf i).toNat)
 case atStart=>exact⟨0,A,AV _,rfl,rfl,HR,Ai _ _⟩
 case round=>
  obtain⟨k,F,hk,hF,rfl,Af,hb⟩:=hrel;obtain⟨oq,Iz,rfl⟩:=Bo Af;have HB:=Hi hb;have HW:=Hi Af;have HF:=Hi hF;have XE:F.length≤1000000:=by
   have:=acC A (l.take k);rw[hF];rw[AZ] at this;omega
  have hFu:Up F:=by rw[hF];exact hu.made _
  clear Af hF;by_cases hlt:k < l.length
  ·obtain⟨p,Iu,hp,_⟩:=(HL.below hb).index cap k hlt;obtain⟨p0,p1,p2⟩:=hp.cells;have Gh:=Hi (aA6 (w:=wr) l[k] HW hFu XE);have HMS:=Hi (show made A (l.take (k+1))=Am.on (made A (l.take k)) l[k] by rw[Cx hlt,ug]);generalize l[k]=c at*;clear hb hp hFu;go_wp2_with fail;refine Gh.mono ?_;rintro e w2⟨v2,rfl,DK,Ac⟩;have BX:=Hi DK;have Ak:=bH HB Ac;clear DK Ac;go_wp2;go_roundw
   case rel=>exact⟨k+1,Am.on F c,by omega,by rw[HMS.out,HF.out],by go_num,Mc.acz BX (AV _),Ak⟩
   case measure=>simp[intOf];omega
  ·obtain rfl:k=l.length:=(by omega);have HE:=Hi (show F=made A l by rw[HF.out,Da]);clear hb;go_wp2;go_ret;exact⟨_,rfl,by rw[←HE.out];exact HW.out,HB⟩
theorem get_at{A:M}{k:Nat}{nm:T}(hk:k < A.length)(h:∀ j,(hj:j < A.length)→j < k→A[j].1≠nm)(he:A[k].1=nm):Ag.get A nm=some A[k].2:=by
 unfold Ag.get;rw[List.find?_eq_some_iff_getElem.2 ⟨by simpa using he,k,hk,rfl,fun j hj=>by simpa using h j (by omega) hj⟩];rfl
theorem au4{A:M}{nm:T}(h:∀ j,(hj:j < A.length)→A[j].1≠nm):Ag.get A nm=none:=get_none.2 fun p hp=>by
 obtain⟨j,hj,rfl⟩:=Sy hp;exact h j hj
theorem amX{r:Nat}{v:Value}{A:M}{most:Int}(h:Hz w r v A most)(hA:A.length≤1000000)(nm:T):
  Calls prog 184 #[.pointer (some ⟨r,0,none⟩),.string (bs nm)] w fun e w'=>e=.returned (.tuple #[.string (bs ((Ag.get A nm).getD [])),.bool (Ag.get A nm).isSome])∧Bw w w':=by
 obtain⟨oq,Iz,rfl⟩:=Bo h.2;have HR:=Hi h;clear h
 go_in
 go_wp2
 go_loopw [6] (fun i wr=>∃ k:Nat,k≤A.length∧i=.int .i64 (k:Int)∧(∀ j,(hj:j < A.length)→j < k→A[j].1≠nm)∧Bw w wr) (fun i _=>A.length -(intOf i).toNat)
 case atStart=>exact⟨0,AV _,rfl,fun j _ e=>by omega,Ai _ _⟩
 case round=>
  obtain⟨k,hk,rfl,hall,hb⟩:=hrel;have Fb:=Hi hall;have HB:=Hi hb;have hr:=HR.below hb;have c0:wr.cell? ⟨r,0,none⟩=some (.slice oq A.length Iz):=cr hr.1;clear hall;by_cases hlt:k < A.length
  ·obtain⟨p,Iu,LQ,Fs⟩:=Mc.index hr.2 hlt;obtain⟨x1,Em⟩:=ex (A[k].1);obtain⟨x2,Ec⟩:=ex (A[k].2);rw[Em] at LQ;rw[Ec] at Fs;by_cases he:x1=nm
   ·have HG:=Hi (get_at hlt Fb (Em.trans he));rw[Ec] at HG;subst he;clear hr hb Em Ec;go_wp2;go_ret2;exact⟨by rw[HG.out];rfl,HB⟩
   ·have heb:(x1 == nm)=false:=(by simpa using he);have xX:=Hi (show A[k].1≠nm by rw[Em];exact he);clear hr hb Em Ec;go_wp2;go_roundw
    case rel=>exact⟨k+1,by omega,by go_num,fun j hj XX=>by
     by_cases e:j=k
     ·subst e;exact xX.out
     ·exact Fb j hj (by omega),HB⟩
    case measure=>simp[intOf];omega
  ·have HG:=Hi (au4 (A:=A) (nm:=nm) (fun j hj=>Fb j hj (by omega)));obtain rfl:k=A.length:=(by omega);clear hr hb;go_wp2;go_ret2;exact⟨by rw[HG.out];rfl,HB⟩
end
end
section
open Go.Maps
open Ag Ar
section
variable {w w':World}
theorem azs{r n cap:Nat}{a:Option Addr}{v:Value}{A:M}{l:List Am}(h:Hz w r v A (Co n))(hu:Up A)(hl:Eb w a l)(hn:n≤16384)(hA:used A≤Co n)(El:l.length≤100000)(hok:∀ c∈l,c.name.length≤maxLen∧c.data.length≤maxLen)(V7:l.all Am.may=true→F8 l≤1400000):
  Calls prog 44 #[.pointer (some ⟨r,0,none⟩),.slice a l.length cap] w fun e w'=>e=.returned (.int .i64 (FC n A l))∧∃ v',Hz w' r v' (En n A l) (Co n)∧A7 (fun k=>k=r) w w':=by
 have J2:=aO hn;have I9:=Rf A;have FM:=Vj hu l;have HR:=Hi h;have HL:=Hi hl;have Gv:=Hi hok;clear h hl hok
 go_in
 go_wp2
 go_loopw [5] (fun i wr=>∃ k:Nat,k≤l.length∧i=.int .i64 (k:Int)∧(l.take k).all Am.may=true∧Bw w wr) (fun i _=>l.length -(intOf i).toNat)
 case atStart=>exact⟨0,AV _,rfl,rfl,Ai _ _⟩
 case round=>
  obtain⟨k,hk,rfl,hall,hb⟩:=hrel;have Fb:=Hi hall;have HB:=Hi hb;clear hall;by_cases hlt:k < l.length
  ·obtain⟨p,Iu,hp,_⟩:=(HL.below hb).index cap k hlt;obtain⟨p0,p1,p2⟩:=hp.cells;obtain⟨o1,o2⟩:=Gv _ (CQ hlt);have HM:=Hi (an2 l[k].name l[k].data l[k].gone wr o1 o2);obtain⟨mv,Ex⟩:=ex (Am.may l[k]);rw[show(⟨l[k].name,l[k].data,l[k].gone⟩:Am)=l[k] from rfl,Ex] at HM;have Rw:=Hi Ex;have NV:=CQ hlt;cases mv with
   |true=>
    have HN:=Hi (show(l.take (k+1)).all Am.may=true by rw[Cx hlt,List.all_append,Fb.out,Bool.true_and];simp[Rw.out]);clear hb hp NV Ex o1 o2;generalize l[k]=c at*;go_wp2_with fail;refine HM.mono ?_;rintro e w2⟨rfl,Ac⟩;have Ak:=bH HB Ac;clear Ac;go_wp2;go_roundw
    case rel=>exact⟨k+1,by omega,by go_num,HN,Ak⟩
    case measure=>simp[intOf];omega
   |false=>
    have QP:l.all Am.may=false:=by
     rw[Bool.eq_false_iff];intro e;rw[MH] at e;rw[e _ NV] at Ex;cases Ex
    have HC:=Hi (show FC n A l=2 by unfold FC;rw[Ad QP]);have HX:=Hi (show En n A l=A by unfold En;rw[Ab (by rw[QP];simp)]);clear hb hp NV Ex o1 o2 QP;generalize l[k]=c at*;go_wp2_with fail;refine HM.mono ?_;rintro e w2⟨rfl,Ac⟩;have Ak:=bH HB Ac;clear Ac;go_wp2;go_ret;exact⟨by rw[HC.out];rfl,v,by rw[HX.out];exact HR.below Ak,A7.of_below Ak⟩
  ·obtain rfl:k=l.length:=(by omega);have hall:=Fb.out;rw[Da] at hall;have hw:=V7 hall;have HW:=Hi (anq (cap:=cap) (HR.below hb) hu (HL.below hb) (by omega) (by omega));have SC:=Hi hall;clear hb hall Fb;go_wp2_with fail;refine HW.mono ?_;rintro e w2⟨v2,rfl,DK,Ac⟩;obtain⟨q2,cap2,rfl⟩:=Bo DK;have Ak:=bH HB Ac;have BX:=Hi DK;have Fz:=Hi (fun(W:World) (hW:Bw w2 W)=>adi (Bv DK (ub hW) (fun _ _ f=>f)) (by omega));have FW:=HR.below Ak.out;have c1:w2.cell? ⟨r,1,none⟩=some (.int .i64 (Co n:Int)):=cr FW.1;have HRF:=Hi FW;obtain⟨F,hF⟩:=ex (made A l);rw[hF] at Fz BX ⊢;have YN:=Hi hF;obtain⟨U,hU⟩:=ex (used F);rw[hU] at Fz;rw[hF,hU] at FM;have j6:=Hi hU;clear DK Ac FW hU hF;have ky:FC n A l=if Co n < U then 4 else 0:=by
    unfold FC;rw[Ab (by rw[SC.out];simp),YN.out,j6.out]
   have kS:En n A l=if Co n < U then A else F:=by
    unfold En;rw[YN.out,j6.out];by_cases e:Co n < U
    ·rw[Ad e,Ab (by omega)]
    ·rw[Ab e,Ad ⟨SC,by omega⟩]
   have SF:=Hi (Cw ky kS);clear ky kS I9 hw El hA J2 hlt hk;by_cases GJ:Co n < U
   ·have QM:(Co n:Int) < (U:Int):=(by omega);have HG:=Hi GJ;clear GJ;go_wp2
    go_region_held3 (fun V=>V.cell? ⟨r,1,none⟩=some (.int .i64 (Co n:Int))) (go_keep)
     (first|(go_at_call 120;refine(Fz _ ((Ai _ _).drew)).mono ?_;rintro e wA ⟨rfl,DT⟩;have Aq:=Hi (Ak.trans ((show Bw w2 wA from((Ai _ w2).drew).trans DT).mono Ak.size));clear DT;have cA:wA.cell? ⟨r,1,none⟩=some (.int .i64 (Co n:Int)):=(by rw[BL _ _ _ _ _ _ (HR.below Aq).1];rfl)))
    all_goals
     go_wp2;go_ret;exact⟨by rw[SF.1,Ad HG.out];rfl,v,by rw[SF.2,Ad HG.out];exact HR.below Aq.out,A7.of_below Aq.out⟩
   ·have QM:¬ (Co n:Int) < (U:Int):=(by omega);have HG:=Hi GJ;clear GJ;go_wp2
    go_region_held3 (fun V=>V.cell? ⟨r,1,none⟩=some (.int .i64 (Co n:Int))) (go_keep)
     (first|(go_at_call 120;refine(Fz _ ((Ai _ _).drew)).mono ?_;rintro e wA ⟨rfl,DT⟩;have Aq:=Hi ((show Bw w2 wA from((Ai _ w2).drew).trans DT));clear DT;have cA:wA.cell? ⟨r,1,none⟩=some (.int .i64 (Co n:Int)):=(by rw[BL _ _ _ _ _ _ (HR.below (bT Ak Aq)).1];rfl)))
    all_goals
     have Dc:=bH Ak Aq;have FW:=HR.below Dc.out;have d0:wA.cell? ⟨r,0,none⟩=some v:=cr FW.1;have df:=Dt _ _ 0 _ _ FW.1;have Ij:=Hi (Cw FW.1 (Bv BX (ub Aq) (fun _ _ f=>f)));clear FW c1;go_wp2;go_ret;refine⟨by rw[SF.1,Ab HG.out];rfl,.slice q2 F.length cap2,?_,(A7.of_below (F:=fun k=>k=r) Dc).setCell (p:=⟨r,0,none⟩) (.inl rfl) _⟩;rw[SF.2,Ab HG.out];refine⟨Cu _ _ 0 _ _ _ Ij.1,Bv Ij.2 ((A7.refl (fun k=>k=r) wA).setCell (p:=⟨r,0,none⟩) (.inl rfl) _) (fun g hg e=>?_)⟩;rw[e] at hg;exact Bb.ne (Cn Ij.2 hg) ⟨_,_,Ij.1⟩ (by decide) rfl
end
end
namespace Bt
open Go.Maps Go.Shelf
open Ag Ar Av BH
attribute [local go_sem] O8
theorem dropWhile_drop{α:Type}(p:α→Bool):∀ (l:List α) (k:Nat),k≤l.length→(∀ j,(h:j < l.length)→j < k→p l[j]=true)→(∀ h:k < l.length,p l[k]=false)→l.dropWhile p=l.drop k
 |[],k,_,_,_=>by simp
 |x :: l,0,_,_,h2=>by
  have:=h2 (by simp);rw[List.drop_zero,List.dropWhile_cons_of_neg (by simpa using this)]
 |x :: l,k+1,hk,h1,h2=>by
  have h0:=h1 0 (by simp) (by omega);rw[List.dropWhile_cons_of_pos (by simpa using h0),List.drop_succ_cons];exact dropWhile_drop p l k (by simpa using hk) (fun j hj XX=>h1 (j+1) (by simpa using hj) (by omega)) (fun h=>h2 (by simpa using h))
theorem avo{R:M}{k:Nat}(h1:1≤k)(hk:k≤R.length)(ha:∀ j,(h:j < R.length)→j < k→R[j].1=(R[0]'(by omega)).1)(hb:∀ h:k < R.length,R[k].1≠(R[0]'(by omega)).1):heads R=(R[0]'(by omega)).1 :: heads (R.drop k):=by
 cases R with
 |nil=>simp at hk;omega
 |cons x R=>
  rw[aiW];obtain⟨k,rfl⟩:∃ j,k=j+1:=⟨k -1,by omega⟩;rw[dropWhile_drop _ R k (by simpa using hk) (fun j hj XX=>by have:=ha (j+1) (by simpa using hj) (by omega);simpa using this) (fun h=>by have:=hb (by simpa using h);simpa using this)];rfl
def gI:M→M
 |[]=>[]
 |x :: l=>l.dropWhile fun y=>decide (y.1=x.1)
def gy(Z:M):Nat→M
 |0=>Z
 |k+1=>gI (gy Z k)
theorem aBm{R:M}{k:Nat}(h1:1≤k)(hk:k≤R.length)(ha:∀ j,(h:j < R.length)→j < k→R[j].1=(R[0]'(by omega)).1)(hb:∀ h:k < R.length,R[k].1≠(R[0]'(by omega)).1):gI R=R.drop k:=by
 cases R with
 |nil=>simp at hk;omega
 |cons x R=>
  obtain⟨k,rfl⟩:∃ j,k=j+1:=⟨k -1,by omega⟩;exact dropWhile_drop _ R k (by simpa using hk) (fun j hj XX=>by have:=ha (j+1) (by simpa using hj) (by omega);simpa using this) (fun h=>by have:=hb (by simpa using h);simpa using this)
theorem aBn{R:M}(h:R≠[]):(gI R).length < R.length:=by
 cases R with
 |nil=>exact absurd rfl h
 |cons x R=>
  have:=(List.dropWhile_sublist (l:=R) fun y=>decide (y.1=x.1)).length_le
  show(R.dropWhile _).length < _
  simp only[BG];omega
theorem Bf.of_block{W W':World}{q:Option Addr}{R:M}(h:Bf W q R)(he:∀ p,q=some p→R≠[]→W'.heap[p.block]?=W.heap[p.block]?):Bf W' q R:=fun i hi=>by
 obtain⟨p,e,hp⟩:=h i hi;have hb:=he p e (List.ne_nil_of_length_pos (by omega));rw[←add_block p (i*2)] at hb;exact⟨p,e,(World.cell?_of_block hb).trans hp.key,(World.cell?_of_block (a:=⟨(p.add (i*2)).block,(p.add (i*2)).off+1,none⟩) hb).trans hp.val⟩
structure Kv(W1:World)(Bx g:Nat)(R:M)(q:Option Addr)(c:Nat)(W:World):Prop where
 box:W.heap[Bx]?=some (.cells #[.slice q R.length c] 30)
 at_:Bf W1 q R
 blk:∀ p,q=some p→R≠[]→p.block=g
 src:R≠[]→∃ cs fr,W1.heap[g]?=some (.cells cs 51 fr)∧W.heap[g]?=some (.cells cs 51 fr)
 cap:R.length≤c
 small:R.length≤1000000
section
variable {W1:World}{Bx g:Nat}{R:M}{q:Option Addr}{c:Nat}{W W':World}
theorem Kv.aI(h:Kv W1 Bx g R q c W):Bf W q R:=h.at_.of_block fun p e hR=>by
 obtain⟨cs,fr,h1,h2⟩:=h.src hR;rw[h.blk p e hR,h1,h2]
theorem Kv.upd{F:Nat→Prop}(h:Kv W1 Bx g R q c W)(hu:A7 F W W')(h1:¬ F Bx)(h2:∀ cs fr,W.heap[g]?=some (.cells cs 51 fr)→¬ F g):Kv W1 Bx g R q c W':=
 ⟨(hu.block Bx (Ao h.box) h1).trans h.box,h.at_,h.blk,fun hR=>by
  obtain⟨cs,fr,k1,k2⟩:=h.src hR;exact⟨cs,fr,k1,(hu.block g (Ao k2) (h2 cs fr k2)).trans k2⟩,h.cap,h.small⟩
theorem Kv.below(h:Kv W1 Bx g R q c W)(hb:Bw W W'):Kv W1 Bx g R q c W':=h.upd (ub hb) (fun f=>f) (fun _ _ _ f=>f)
theorem Kv.put(h:Kv W1 Bx g R q c W){k:Nat}{o o':Obj}(ho:W.heap[k]?=some o)(hc:o.isCells=false):Kv W1 Bx g R q c (W.putObj k o'):=by
 refine⟨Si h.box ho hc,h.at_,h.blk,fun hR=>?_,h.cap,h.small⟩;obtain⟨cs,fr,k1,k2⟩:=h.src hR;refine⟨cs,fr,k1,?_⟩;rw[World.putObj_heap_other (fun e=>?_)]
 ·exact k2
 ·subst e;rw[k2] at ho;injection ho with ho
  subst ho;exact absurd hc (by simp[Obj.isCells])
theorem Kv.next(h:Kv W1 Bx g R q c W){k:Nat}(hk:k≤R.length):Kv W1 Bx g (R.drop k) (IX q c k) (c -k) (W.setCell ⟨Bx,0,none⟩ (.slice (IX q c k) (R.length -k) (c -k))):=by
 have hl:(R.drop k).length=R.length -k:=Ct;refine⟨by rw[hl];exact Cu W Bx 0 _ _ _ h.box,h.at_.back hk h.cap,fun p e hR=>?_,fun hR=>?_,by rw[hl];have:=h.cap;omega,by rw[hl];have:=h.small;omega⟩
 ·have qY:R≠[]:=fun e=>hR (by rw[e];simp)
  unfold IX at e;split at e
  ·exact h.blk p e qY
  ·cases q with
   |none=>cases e
   |some p0=>
    simp only[EK,Ci] at e;rw[←e,add_block];exact h.blk p0 rfl qY
 ·have qY:R≠[]:=fun e=>hR (by rw[e];simp)
  obtain⟨cs,fr,k1,k2⟩:=h.src qY;refine⟨cs,fr,k1,(((A7.refl (fun k=>k=Bx) W).setCell (p:=⟨Bx,0,none⟩) (.inl rfl) _).block g (Ao k2) (fun e=>?_)).trans k2⟩;rw[e,h.box] at k2;injection k2 with k2
  injection k2 with _ k2
  exact absurd k2 (by decide)
end
def asx(x:Value×T):Array Value:=#[x.1]
def gZ(W1:World)(Bx g:Nat)(Z:M)(J:List T→World→Prop)(xs:List (Value×T))(W:World):Prop:=
 ∃ R q c,Kv W1 Bx g R q c W∧R=gy Z xs.length∧heads Z=xs.map (·.2)++heads R∧J (xs.map (·.2)) W
def wR(W1:World)(Bx g:Nat)(Z:M)(J:List T→World→Prop)(xs:List (Value×T))(x:Value×T)(W:World):Prop:=
 ∃ R q c,Kv W1 Bx g R q c W∧R=gy Z (xs.length+1)∧heads Z=xs.map (·.2)++x.2 :: heads R∧J (xs.map (·.2)) W∧∃ p n c',x.1=.slice (some p) (n+1) c'∧W.cell? p=some (.string (bs x.2))∧n < 1000000
def z8(Bx:Nat)(W:World):Nat:=match W.cell? ⟨Bx,0,none⟩ with
 |some (.slice _ n _)=>n
 |_=>0
theorem za{W1:World}{Bx g:Nat}{R:M}{q:Option Addr}{c:Nat}{W:World}(h:Kv W1 Bx g R q c W):z8 Bx W=R.length:=by
 unfold z8;rw[BL _ _ _ _ _ _ h.box];rfl
theorem aui(q:Option Addr)(m c:Nat)(w:World):
  Calls prog 200 #[.slice q m c] w fun e w'=>e=.returned (.func (.func 252) #[] #[.pointer (some ⟨w.heap.size,0,none⟩)])∧w'=w.alloc (.cells #[.slice q m c] 30):=by
 go_in
 go_wp2;go_ret;exact⟨rfl,rfl⟩
theorem az8(W:World)(q:Option Addr)(n cap k:Nat)(hk:k≤n)(hc:n≤cap):
  (Instr.slice 30 (.slice q n cap) none (some (.int .i64 (k:Int))) (some (.int .i64 (k:Int)))).run prog W=.ok (.slice q k k) W:=by
 obtain⟨i,hi,_,hs,_⟩:=DC Rb;cases q<;>simp[Instr.slice,Hd underlying30,Instr.sliceBounds,sizeOf,typeInfo,hi,go_sem]<;>omega
theorem auh(n:Nat)(hn:1≤n)(W1:World)(Bx g:Nat)(Z:M){J:List T→World→Prop}(hJ:∀ ks W W' cs,J ks W→W.heap[Bx]?=some (.cells cs 30)→A7 (fun k=>k=Bx) W W'→J ks W')(w:World):
  Xk n prog 252 #[.pointer (some ⟨Bx,0,none⟩)] asx (gZ W1 Bx g Z J) (wR W1 Bx g Z J) (fun xs=>xs.map (·.2)=heads Z) w:=by
 intro l Bk W UE hY hW h0 Kc;have H0:=Hi h0;have X5:=Hi Kc;clear h0 Kc;refine callsIn_of_wp func252 rfl trivial ?_ rfl;simp only[ntmps252,Jt,BG,Ht,Nat.reduceAdd,Nat.reduceSub,La,Lb,Lf,Lc,Ei,Gt]
 gi_wp2
 gi_loopw [3] (fun _ wr=>∃ xs,gZ W1 Bx g Z J xs wr∧Bk wr) (fun _ wr=>z8 Bx wr)
 case atStart=>exact⟨[],H0,X5⟩
 case round=>
  obtain⟨xs,⟨R,q,c,hG,Zq,hZ,Na⟩,hk⟩:=hrel;have NW:prog.follows .mixedOrders=true:=by kernel_rfl
  have LF:wr.cell? ⟨Bx,0,none⟩=some (.slice q R.length c):=cr hG.box;have HG:=Hi hG;have Ui:=Hi Zq;have HZ:=Hi hZ;have HJ:=Hi Na;have HK:=Hi hk;clear hG Zq hZ Na hk H0 X5;by_cases hR:R=[]
  ·have HE:=Hi (show xs.map (·.2)=heads Z from by rw[HZ.out,hR,aiX,Ea]);have hz:¬ (0:Int) < (R.length:Int):=(by rw[hR];simp);clear hR
   gi_wp2
   go_end0
   exact⟨⟨_,rfl⟩,xs,HE,⟨R,q,c,HG,Ui,HZ,HJ⟩,HK⟩
  ·have ZR:=List.length_pos_iff.2 hR;have hz:(0:Int) < (R.length:Int):=by omega
   gi_wp2
   obtain⟨a0,ha0⟩:=ex ((R[0]'ZR).1);have YJ:=Hi (show ∀ h:0 < R.length,(R[0]'h).1=a0 from fun _=>ha0);have oz:=Hi ZR;have ZG:∀ W,∃ p:Addr,q=some p∧(Instr.indexAt 30 (.slice q R.length c) (.int .i64 0)).run prog W=.ok (.pointer (some p)) W:=fun W=>by
    obtain⟨p,rfl,hp⟩:=HG.aI 0 ZR;have:=IB prog _ 51 underlying30 2 (by kernel_rfl) p R.length c 0 ZR W;rw[Nat.zero_mul,add_zero'] at this;exact⟨p,rfl,this⟩
   obtain⟨p0,rfl,-⟩:=ZG wr;have S9:∀ W,(Instr.indexAt 30 (.slice (some p0) R.length c) (.int .i64 0)).run prog W=.ok (.pointer (some p0)) W:=fun W=>by
    obtain⟨p,e,h⟩:=ZG W;cases e;exact h
   have Zd:=Hi S9;have Fy:=Hi (za HG);have Ou:=Hi (aBn hR);clear hR ha0 ZR ZG S9 LF hz
   gi_loopw [3] (fun i wr2=>∃ k:Nat,1≤k∧k≤R.length∧i=.int .i64 (k:Int)∧(∀ j,(h:j < R.length)→j < k→R[j].1=a0)∧Kv W1 Bx g R (some p0) c wr2∧J (xs.map (·.2)) wr2∧Bk wr2) (fun i _=>R.length -(intOf i).toNat)
   case atStart=>exact⟨1,Ae _,oz,rfl,(fun j h hj=>by
    obtain rfl:j=0:=(by omega);exact YJ h),HG,HJ,HK⟩
   case round=>
    clear HG HJ HK;obtain⟨k,F4,Dw,rfl,hall,K7,jH,XC⟩:=hrel;have UI:wr.cell? ⟨Bx,0,none⟩=some (.slice (some p0) R.length c):=cr K7.box;have avB:=Dt _ _ 0 _ _ K7.box;have dO:wr.cell? p0=some (.string (bs a0)):=by
     obtain⟨p,e,hp⟩:=K7.aI 0 oz.out;cases e;have:=hp.key;rwa[Nat.zero_mul,add_zero',YJ oz.out] at this
    have S9:=Zd.out;have FL:=K7.small;have Fb:=Hi hall;have Dg:=Hi K7;have YR:=Hi jH;have Ak:=Hi XC;have dW:(0:Int) < (k:Int):=(by omega);have avf:=fun W=>az8 W (some p0) R.length c k Dw K7.cap
    have rF:=fun W=>fU W (some p0) R.length c k Dw
    have Uo:=Hi (show(∀ h:k < R.length,R[k].1≠a0)→∀ (nq:Nat),YieldAt Fence.wide (n -1) prog l #[.slice (some p0) k k] ((wr.drewN nq).setCell ⟨Bx,0,none⟩ (.slice (IX (some p0) c k) (R.length -k) (c -k))) fun e W'=>e=.returned (.bool true)∧gZ W1 Bx g Z J (xs++[(.slice (some p0) k k,a0)]) W'∧Bk W' from fun hb nq=>by
     have hd:Bw wr (wr.drewN nq):=FB wr nq;have hGd:=K7.below hd;have O0:=aBm F4 Dw (fun j h hj=>by rw[hall j h hj,YJ.out]) (fun h=>by rw[YJ.out];exact hb h);have hhd:=avo F4 Dw (fun j h hj=>by rw[hall j h hj,YJ.out]) (fun h=>by rw[YJ.out];exact hb h);rw[YJ.out] at hhd;have hne:R≠[]:=List.length_pos_iff.1 oz;have hu:A7 (fun k=>k=Bx) wr ((wr.drewN nq).setCell ⟨Bx,0,none⟩ (.slice (IX (some p0) c k) (R.length -k) (c -k))):=(A7.of_below (F:=fun k=>k=Bx) hd).setCell (p:=⟨Bx,0,none⟩) (.inl rfl) _;refine hY xs (.slice (some p0) k k,a0) _ ⟨R.drop k,IX (some p0) c k,c -k,hGd.next Dw,by show _=gI (gy Z xs.length);rw[←Ui.out,O0],by rw[HZ.out,hhd],hJ _ _ _ _ jH K7.box hu,p0,k -1,k,by show Value.slice _ _ _=_;rw[Nat.sub_add_cancel F4],?_,by have:=K7.small;omega⟩ (UE _ _ XC ((Vd (ub hd) (fun _ _ f=>f.elim)).trans (KeepsOthers.setCell _ _ _)));refine(hu.cell (Cr dO) (fun e=>?_)).trans dO;obtain⟨cs,fr,_,k2⟩:=K7.src hne;have e2:p0.block=g:=K7.blk p0 rfl hne;rw[←e2,e,K7.box] at k2;injection k2 with k2
     injection k2 with _ k2
     exact absurd k2 (by decide))
    by_cases hlt:k < R.length
    ·obtain⟨pk,hik,hpk,-⟩:=K7.aI.index c k hlt;have QJ:=hpk.key;by_cases kD:R[k].1=a0
     ·have aoW:=Hi (show ∀ j,(h:j < R.length)→j < k+1→R[j].1=a0 from fun j h hj=>by
       by_cases e:j=k
       ·subst e;exact kD
       ·exact hall j h (by omega))
      rw[kD] at QJ;clear hall K7 jH XC hpk Uo avf rF
      gi_wp2
      refine wpIn_region_quiet_lit rfl NW (by kernel_rfl) ?_
      repeat (gi_big_quiet_step (fail))
      refine wpQuietIn_nil ?_;rintro _⟨nq,rfl⟩
      gi_wp2
      go_roundw
      case rel=>exact⟨k+1,by omega,by omega,by go_num,aoW,Dg.below (FB wr nq),hJ _ _ _ _ YR Dg.box (A7.of_below (FB wr nq)),UE _ _ Ak (Vd (ub (FB wr nq)) (fun _ _ f=>f.elim))⟩
      case measure=>simp[intOf];omega
     ·have bR:=Hi (Uo.out fun _=>kD);have hne:(R[k].1 == a0)=false:=(by simpa using kD);generalize R[k]=xk at*;clear hall K7 jH XC hpk Uo kD
      gi_wp2
      refine wpIn_region_quiet_lit rfl NW (by kernel_rfl) ?_
      repeat (gi_big_quiet_step (fail))
      refine wpQuietIn_nil ?_;rintro _⟨nq,rfl⟩
      gi_wp2
      obtain⟨fn,tmps,assign,body,hy,hR⟩:=bR nq;have Ep:=Hi hR;clear hR bR
      gi_wp2
      rw[hy]
      gi_wp2
      refine Ep.mono ?_;rintro e W3⟨rfl,h1,h2⟩;have H1:=Hi h1;have H2:=Hi h2;clear h1 h2 hy Ep
      gi_wp2
      go_roundw
      case rel=>exact⟨_,H1,H2⟩
      case measure=>
       obtain⟨R',q',c',g1,g2,_,_⟩:=H1.out;rw[za g1,Fy.out,g2,AA,Le]
       show(gI (gy Z xs.length)).length < _
       rw[←Ui.out];exact Ou.out
    ·obtain rfl:k=R.length:=(by omega);have bR:=Hi (Uo (fun h=>absurd h (Nat.lt_irrefl _)));simp only[Nat.sub_self] at bR;clear hall K7 jH XC Uo
     gi_wp2
     refine wpIn_region_quiet_lit rfl NW (by kernel_rfl) ?_
     repeat (gi_big_quiet_step (fail))
     refine wpQuietIn_nil ?_;rintro _⟨nq,rfl⟩
     gi_wp2
     obtain⟨fn,tmps,assign,body,hy,hR⟩:=bR nq;have Ep:=Hi hR;clear hR bR
     gi_wp2
     rw[hy]
     gi_wp2
     refine Ep.mono ?_;rintro e W3⟨rfl,h1,h2⟩;have H1:=Hi h1;have H2:=Hi h2;clear h1 h2 hy Ep
     gi_wp2
     go_roundw
     case rel=>exact⟨_,H1,H2⟩
     case measure=>
      obtain⟨R',q',c',g1,g2,_,_⟩:=H1.out;rw[za g1,Fy.out,g2,AA,Le]
      show(gI (gy Z xs.length)).length < _
      rw[←Ui.out];exact Ou.out
def VQ(ats:Array TypeId)(ty:TypeId)(args:Array Value):Sem Value:=Builtin.append_ ats ty args
theorem cz(ats:Array TypeId)(ty:TypeId)(args:Array Value):Builtin.append_ ats ty args=VQ ats ty args:=rfl
structure Jg(B:Nat)(w:World)(oc:Nat)(W:World)(l:List T)(v:Value):Prop where
 AO:Below B w W
 low:B≤oc
 size:B≤W.heap.size
 box:W.heap[oc]?=some (.cells #[v] 61)
 row:W.ownsRow B 9 1 v l.length (strCells l)
section
variable {B:Nat}{w:World}{oc:Nat}{W W1 W2:World}{l:List T}{v:Value}
theorem Jg.ne(h:Jg B w oc W l v){k:Nat}(hk:v.ownBlock=some k):k≠oc∧B≤k:=by
 refine⟨fun e=>?_,E9 h.row hk⟩;obtain⟨cs,fz,h1⟩:=Cn h.row hk;rw[e,h.box] at h1;injection h1 with h1
 injection h1 with _ h1
 exact absurd h1 (by decide)
theorem Jg.upd{F:Nat→Prop}(h:Jg B w oc W l v)(hu:A7 F W W1)(hB:∀ k,F k→B≤k)(h1:¬ F oc)(h2:∀ k,v.ownBlock=some k→¬ F k):Jg B w oc W1 l v:=
 ⟨Cy h.AO hu hB h.size,h.low,Aw h.size hu.size,(hu.block oc (Ao h.box) h1).trans h.box,Bv h.row hu h2⟩
theorem Jg.below(h:Jg B w oc W l v)(hb:Bw W W1):Jg B w oc W1 l v:=h.upd (ub hb) (fun _ f=>f.elim) (fun f=>f) (fun _ _ f=>f)
theorem Jg.put(h:Jg B w oc W l v){k:Nat}{o o':Obj}(ho:W.heap[k]?=some o)(hc:o.isCells=false)(hk:B≤k):Jg B w oc (W.putObj k o') l v:=by
 refine h.upd (F:=fun i=>i=k) (A7.of_grownBy (F:=fun i=>i=k) (grownBy_putObj' W k o') (fun i e=>by cases e;rfl)) (fun i e=>by rw[e];exact hk) (fun e=>?_) (fun i hi e=>?_)
 ·rw[←e,h.box] at ho;injection ho with ho
  subst ho;exact absurd hc (by simp[Obj.isCells])
 ·obtain⟨cs,fz,h2⟩:=Cn h.row hi;rw[e,ho] at h2;injection h2 with h2
  subst h2;exact absurd hc (by simp[Obj.isCells])
theorem Jg.kind(h:Jg B w oc W l v){k:Nat}{cs:Array Value}{t:TypeId}{fz:Nat×Nat}(hk:W.heap[k]?=some (.cells cs t fz))(h1:t≠61)(h2:t≠9):oc≠k∧v.ownBlock≠some k:=by
 refine⟨fun e=>?_,fun e=>?_⟩
 ·rw[←e,h.box] at hk;injection hk with hk
  injection hk with _ hk
  exact h1 hk.symm
 ·obtain⟨c2,f2,h3⟩:=Cn h.row e;rw[hk] at h3;injection h3 with h3
  injection h3 with _ h3
  exact h2 h3
theorem Jg.add(h:Jg B w oc W l v)(hb:Bw W W1)(hg:W1.grownBy W2 v.ownBlock){v':Value}{k:List T}(ho:W2.ownsRow B 9 1 v' (l.length+k.length) (strCells l++strCells k)):
  Jg B w oc (W2.setCell ⟨oc,0,none⟩ v') (l++k) v':=by
 have h1:=h.below hb;have rJ:W2.heap[oc]?=some (.cells #[v] 61):=(hg.block oc (Ao h1.box) (fun e=>(h1.ne e.symm).1 rfl)).trans h1.box;have hu:=(A7.refl (fun k=>k=oc) W2).setCell (p:=⟨oc,0,none⟩) (.inl rfl) v';refine⟨(h1.AO.grown hg h1.size (fun k e=>(h1.ne e).2)).setCell (p:=⟨oc,0,none⟩) h.low v',h.low,Aw (Aw h1.size hg.size) hu.size,Cu W2 oc 0 _ _ v' rJ,?_⟩;rw[AA,show strCells (l++k)=strCells l++strCells k by unfold strCells;rw[CK]];refine Bv ho hu (fun g hg e=>?_);obtain⟨cs,fz,h2⟩:=Cn ho hg;rw[e,rJ] at h2;injection h2 with h2
 injection h2 with _ h2
 exact absurd h2 (by decide)
theorem Jg.keeps(h:Jg B w oc W l v)(hb:Bw W W1)(hg:W1.grownBy W2 v.ownBlock)(v':Value):KeepsOthers W (W2.setCell ⟨oc,0,none⟩ v'):=by
 have h1:=h.below hb;refine((Vd (ub hb) (fun _ _ f=>f.elim)).trans (KeepsOthers.of_grownBy hg fun j o e ho=>?_)).trans (KeepsOthers.setCell _ _ _);obtain⟨cs,fz,h2⟩:=Cn h1.row e;rw[ho] at h2;injection h2 with h2
 subst h2;rfl
theorem Jg.other(h:Jg B w oc W l v)(hb:Bw W W1)(hg:W1.grownBy W2 v.ownBlock)(v':Value){k:Nat}{cs:Array Value}{t:TypeId}{fz:Nat×Nat}(hk:W.heap[k]?=some (.cells cs t fz))(h1:t≠61)(h2:t≠9):
  (W2.setCell ⟨oc,0,none⟩ v').heap[k]?=some (.cells cs t fz):=by
 have F4:=(hb.block k (Ao hk)).trans hk;obtain⟨n1,n2⟩:=(h.below hb).kind F4 h1 h2;have I6:=(hg.block k (Ao F4) (fun e=>n2 e.symm)).trans F4;exact(((A7.refl (fun k=>k=oc) W2).setCell (p:=⟨oc,0,none⟩) (.inl rfl) v').block k (Ao I6) (fun e=>n1 e.symm)).trans I6
theorem aBr(x:T)(h:W.ownsRow B 9 1 v l.length (strCells l))(hn:l.length≤1000000000)(hb:B≤W.heap.size):
  ∃ g cap w2,(VQ #[61,61] 61 #[v,.slice (some ⟨W.heap.size,0,none⟩) 1 1]).run prog (W.alloc (.cells #[.string (bs x)] 9))=.ok (.slice (some ⟨g,0,none⟩) (l.length+1) cap) w2∧
   w2.ownsRow B 9 1 (.slice (some ⟨g,0,none⟩) (l.length+1) cap) (l.length+[x].length) (strCells l++strCells [x])∧
   (W.alloc (.cells #[.string (bs x)] 9)).grownBy w2 v.ownBlock:=by
 obtain⟨i0,Bl,AY,Ba,Be⟩:=DC TV;obtain⟨v',w2,h1,h2,h3,_,_⟩:=run_append_own_at (P:=prog) (W.alloc (.cells #[.string (bs x)] 9)) B 61 61 9 i0 _ 1 16 underlying61 Bl AY Ba Be rfl (by decide) v l.length _ (h.alloc _) ⟨W.heap.size,0,none⟩ 1 1 [.string (bs x)] rfl
  (by intro j u hj;rw[add_plain,E5];exact(Dy▸hj)) (by simp[Value.oneCell']) (by unfold maxLen;omega) (by omega) (by rw[Ay];omega)
 obtain⟨g,cap,rfl⟩:=ownsRow_succ h2;exact⟨g,cap,w2,h1,by unfold strCells at h2 ⊢;exact h2,h3⟩
end
end Bt
namespace Bt
open Go.Maps Go.Shelf
open Ag Ar Av BH
attribute [local go_sem] O8
attribute [local go_sem ↓] cz
def bS(w:World)(ks:List T)(W:World):Prop:=∃ v,Jg w.heap.size w w.heap.size W ks v
theorem axd{w W W':World}{Bx:Nat}{ks:List T}{cs:Array Value}(h:bS w ks W)(hb:W.heap[Bx]?=some (.cells cs 30))(hB:w.heap.size≤Bx)(hu:A7 (fun k=>k=Bx) W W'):bS w ks W':=by
 obtain⟨v,h⟩:=h;obtain⟨n1,n2⟩:=h.kind hb (by decide) (by decide);exact⟨v,h.upd hu (fun k e=>by rw[e];exact hB) n1 (fun k hk e=>n2 (by rw[hk,e]))⟩
theorem al2{w:World}{B:Nat}(hB:w.heap.size≤B)(ks:List T):MV B (bS w ks):=
 ⟨fun A l o o' hl ⟨v,h⟩ ho hc=>⟨v,h.put ho hc (Aw hB hl)⟩,fun A o ⟨v,h⟩=>⟨v,h.below (AU A o)⟩⟩
theorem au5{W1:World}{Bx g B:Nat}{Z:M}{J:List T→World→Prop}(hJ:∀ ks,MV B (J ks))(xs:List (Value×T)):MV B (gZ W1 Bx g Z J xs):=
 ⟨fun A l o o' hl ⟨R,q,c,h1,h2,h3,h4⟩ ho hc=>⟨R,q,c,h1.put ho hc,h2,h3,(hJ _).1 A l o o' hl h4 ho hc⟩,fun A o ⟨R,q,c,h1,h2,h3,h4⟩=>⟨R,q,c,h1.below (AU A o),h2,h3,(hJ _).2 A o h4⟩⟩
theorem zu{A:World}{p:Addr}{v:Value}{l:Nat}{o o':Obj}(h:A.cell? p=some v)(ho:A.heap[l]?=some o)(hc:o.isCells=false):(A.putObj l o').cell? p=some v:=by
 refine(World.cell?_of_block (World.putObj_heap_other (fun e=>?_))).trans h;unfold World.cell? at h;rw[e,ho] at h;cases o<;>simp[Obj.isCells] at hc h
theorem au7{W1:World}{Bx g B:Nat}{Z:M}{J:List T→World→Prop}(hJ:∀ ks,MV B (J ks))(xs:List (Value×T))(x:Value×T):MV B (wR W1 Bx g Z J xs x):=
 ⟨fun A l o o' hl ⟨R,q,c,h1,h2,h3,h4,p,n,c',h5,h6,h7⟩ ho hc=>⟨R,q,c,h1.put ho hc,h2,h3,(hJ _).1 A l o o' hl h4 ho hc,p,n,c',h5,zu h6 ho hc,h7⟩,
  fun A o ⟨R,q,c,h1,h2,h3,h4,p,n,c',h5,h6,h7⟩=>⟨R,q,c,h1.below (AU A o),h2,h3,(hJ _).2 A o h4,p,n,c',h5,((AU A o).cell (Cr h6)).trans h6,h7⟩⟩
theorem fT{w:World}{q:Option Addr}{cap:Nat}{l:M}(h:Bf w q l)(hq:q=none→cap=0)(hl:l.length≤1000000):
  Calls prog 122 #[.slice q l.length cap] w fun e w'=>∃ v,e=.returned v∧Ar.Bq w' w.heap.size v (E8 l)∧Bw w w':=by
 refine(Dr (n:=3)).1 ?_;have NW:prog.follows .mixedOrders=true:=by kernel_rfl
 have HS:=Hi (fun(W:World) (hW:Bw w W)=>anL _ W q cap l (Ae _) (h.below hW) hq hl);have Oo:=Hi (gG l);have HK:=Hi (avp l);clear h hq;refine callsIn_of_wp_marks func122 rfl trivial ?_ rfl;simp only[ntmps122,Jt,BG,Ht,Nat.reduceAdd,Nat.reduceSub,La,Lb,Lf,Lc,Ei,Gt]
 gi_wp2
 have Bg:=AU w (.cells #[.slice none 0 0] 61);have ht0:Jg w.heap.size w w.heap.size (w.alloc (.cells #[.slice none 0 0] 61)) [] (.slice none 0 0):=⟨Bg,Ae _,Bg.size,AQ w _,by unfold strCells;exact DZ _ _ _ _⟩;have Xd:=Hi ht0;refine⟨trivial,(Dr.2 (HS _ Bg)).mono ?_⟩;rintro e w1⟨v1,rfl,h1,Aj⟩;obtain⟨q1,c1,rfl,Gp,GH⟩:=FH h1;have Je:=Hi (Xd.below Aj);have Ff:=Hi h1;have bg:=Hi GH;clear Bg ht0 h1 Aj Gp GH Xd HS
 gi_wp2
 refine⟨trivial,(Dr.2 (aui q1 _ c1 _)).mono ?_⟩;rintro e w2⟨rfl,LX⟩;subst LX
 gi_wp2
 have ED:=Hi (AQ w1 (.cells #[.slice q1 (F7 l).length c1] 30));have Z8:=Hi (Je.below (AU w1 (.cells #[.slice q1 (F7 l).length c1] 30)));have bL:=Hi (Cg Ff (AU w1 (.cells #[.slice q1 (F7 l).length c1] 30)));have Ll:=Hi Je.size;obtain⟨Bx,Iq⟩:=ex (w1.heap.size);rw[Iq] at ED Ll ⊢;obtain⟨U,hU⟩:=ex (w1.alloc (.cells #[.slice q1 (F7 l).length c1] 30));rw[hU] at ED Z8 bL ⊢;obtain⟨g,hg⟩:∃ g,∀ p,q1=some p→p.block=g:=by
  cases q1 with
  |none=>exact⟨0,fun p e=>by cases e⟩
  |some p=>exact⟨p.block,fun p' e=>by cases e;rfl⟩
 have Qr:=Hi (show Kv U Bx g (F7 l) q1 c1 U from⟨ED,Bf.CX bL,fun p e _=>hg p e,fun hne=>by
  rcases bL.2 with⟨e1,e2⟩|⟨g',cap',cur,e1,_,OH,_⟩
  ·exact absurd (Ld.1 e2) hne
  ·injection e1 with e2
   have:=hg _ e2;subst this;exact⟨_,_,OH,OH⟩,bg.out,by rw[Oo.out];exact hl⟩)
 clear Iq hU hg Je Ff bg bL;refine aoH (s:=3) (by omega) (gf:=252) (lb:=#[.pointer (some ⟨Bx,0,none⟩)]) rfl (enters_of func252 (by kernel_rfl) rfl) (e:=fun x:Value×T=>x.1)
  (Ia:=gZ U Bx g (F7 l) (bS w)) (Iy:=wR U Bx g (F7 l) (bS w)) (fun xs=>au5 (fun ks=>al2 Z8.size ks) xs) (fun xs x=>au7 (fun ks=>al2 Z8.size ks) xs x)
  (auh 2 (by omega) U Bx g (F7 l) (J:=bS w) (fun ks W W' cs h hb hu=>axd h hb Ll hu) U) ⟨F7 l,q1,c1,Qr,rfl,rfl,_,Z8⟩
  ?assign ?body ?done
 case assign=>
  intro l x W K hK;simp only[np] at hK ⊢
  gi_wp2
  exact hK
 case body=>
  intro l2 pre x W hy;obtain⟨R,q2,c2,hG,Zq,hZ,⟨v,hT⟩,p,n,c',hx,Gb,hn⟩:=hy;obtain⟨xv,xk⟩:=x;obtain⟨qv,cv,rfl⟩:=Bo hT.row;simp only at hx Gb hZ;subst hx;have hlen:(pre.map (·.2)).length≤1000000:=by
   have h1:=congrArg List.length hZ;rw[HK.out,AA] at h1;have h2:=Vh (l.map (·.1));rw[BP] at h2;unfold E8 at h1;omega
  obtain⟨g7,pK,w7,QT,LP,Ir⟩:=aBr (W:=W.drew) xk hT.row.drew (by omega) hT.size;have LD:Bw W (W.drew.alloc (.cells #[.string (bs xk)] 9)):=((Ai _ W).drew).alloc (Ae _) _;have wT:=Hi (hT.add LD Ir (k:=[xk]) LP);have Vv:=Hi (hT.keeps LD Ir (.slice (some ⟨g7,0,none⟩) ((pre.map (·.2)).length+1) pK))
  have HGN:=Hi (show Kv U Bx g R q2 c2 (w7.setCell ⟨w.heap.size,0,none⟩ (.slice (some ⟨g7,0,none⟩) ((pre.map (·.2)).length+1) pK)) from⟨hT.other LD Ir _ hG.box (by decide) (by decide),hG.at_,hG.blk,fun hne=>by
   obtain⟨cs,fr,k1,k2⟩:=hG.src hne;exact⟨cs,fr,k1,hT.other LD Ir _ k2 (by decide) (by decide)⟩,hG.cap,hG.small⟩)
  have NN:=(Ir.block w.heap.size (by rw[Ay];exact Nat.lt_succ_of_lt (Ao hT.box)) (fun e=>(hT.ne e.symm).1 rfl)).trans ((LD.block _ (Ao hT.box)).trans hT.box);have XN:w7.cell? ⟨w.heap.size,0,none⟩=some (.slice qv (pre.map (·.2)).length cv):=cr NN;have ZA:=Dt w7 w.heap.size 0 _ _ NN;have cb:W.cell? ⟨w.heap.size,0,none⟩=some (.slice qv (pre.map (·.2)).length cv):=cr hT.box;have Cs:∀ V,(Instr.indexAt 30 (.slice (some p) (n+1) c') (.int .i64 0)).run prog V=.ok (.pointer (some p)) V:=fun V=>by
   have:=IB prog _ 51 underlying30 2 (by kernel_rfl) p (n+1) c' 0 (by omega) V;rw[Nat.zero_mul,add_zero'] at this;exact this
  have HZ:=Hi hZ;have Ui:=Hi Zq;have aiN:=Ao hT.box;have kY:=Cr Gb;have aEy:(VQ #[61,61] 61 #[.slice qv (pre.map (·.2)).length cv,.slice (some ⟨W.heap.size,0,none⟩) 1 1]).run prog (W.alloc (.cells #[.string (bs xk)] 9)).drew=.ok (.slice (some ⟨g7,0,none⟩) ((pre.map (·.2)).length+1) pK) w7:=QT;generalize (pre.map (·.2)).length=m at*;clear hG Zq hZ hT QT LP Ir LD NN hlen;simp only[np]
  gi_wp2
  gi_region_with_o (fail)
  all_goals
   refine⟨Vv,R,q2,c2,HGN,by rw[AA];exact Ui.out,by rw[HZ.out,CK];simp,.slice (some ⟨g7,0,none⟩) (m+1) pK,?_⟩;rw[CK];exact wT.out
 case done=>
  intro D xs W hD hS hI Dv;obtain⟨R,q2,c2,hG,Zq,hZ,⟨v,hT⟩⟩:=hI;rw[hS,HK.out] at hT;obtain⟨qv,cv,rfl⟩:=Bo hT.row;have HT:=Hi hT;have SN:=Hi Dv;have HD:=Hi (show w.heap.size≤D from Aw Z8.size hD);have cb:W.cell? ⟨w.heap.size,0,none⟩=some (.slice qv (E8 l).length cv):=cr hT.box;have OG:=Dt W w.heap.size 0 _ _ hT.box;have hu:=(A7.refl (fun k=>k=w.heap.size) W).setCell (p:=⟨w.heap.size,0,none⟩) (.inl rfl) (.slice qv (E8 l).length cv);have UI:=Cu W w.heap.size 0 _ _ (.slice qv (E8 l).length cv) hT.box
  have IW:=Hi (show(W.setCell ⟨w.heap.size,0,none⟩ (.slice qv (E8 l).length cv)).heap[D]?=some (.deferred (some [])) from(hu.block D (Dq.1 Dv).1 (fun e=>by
   rw[e,hT.box] at Dv;cases Dv)).trans Dv)
  have VZ:Jg w.heap.size w w.heap.size (W.setCell ⟨w.heap.size,0,none⟩ (.slice qv (E8 l).length cv)) (E8 l) (.slice qv (E8 l).length cv):=
   ⟨hT.AO.setCell (p:=⟨w.heap.size,0,none⟩) (Ae _) _,hT.low,Aw hT.size hu.size,UI,Bv hT.row hu (fun k hk=>(hT.ne hk).1)⟩
  have yw:=Hi (VZ.put (o':=.deferred none) IW rfl HD);have Vr:=Hi (show((W.setCell ⟨w.heap.size,0,none⟩ (.slice qv (E8 l).length cv)).putObj D (.deferred none)).cell? ⟨w.heap.size,0,none⟩=some (.slice qv (E8 l).length cv) from cr yw.box);clear hG Zq hZ hT hS Dv hD hu UI VZ
  gi_wp2
  refine⟨by simp,.inl ⟨_,_,rfl,run_takeDeferred IW,?_⟩⟩;exact⟨_,(by simp[results,results122,go_sem,Vr.out]),_,rfl,yw.row,yw.AO⟩
end Bt
namespace Mem
open Go.Maps
open Ag Ar Bt Kp BI Hex BH
theorem uA(k:T)(w:World)(hk:k.length≤1000000):Calls prog 15 #[.string (bs k)] w fun e w'=>e=.returned (.string (bs (Ah.nm k)))∧Bw w w':=by
 have hm:({ data:=#[109] }:ByteArray)=bs [109]:=rfl;have hcut:∀ W,(Instr.slice 9 (.string (bs (EJ k))) none (some (.int .i64 8)) none).run prog W=.ok (.string (bs ((EJ k).take 8))) W:=fun W=>O7 prog W 9 underlying9 (EJ k) 8 (by rw[TU];decide)
 have HE:=Hi (show Ah.nm k=[109]++Ew ((EJ k).take 8) from rfl);have hl:(Ew ((EJ k).take 8)).length=16:=by rw[UN,AZ,TU];rfl
 have HS:=Hi (anw k hk w);have HH:=Hi (fun(W:World)=>ab2 ((EJ k).take 8) W (by rw[AZ,TU];decide));rw[HE.out];generalize EJ k=s at*;generalize Ew (s.take 8)=h at*
 go_in
 go_wp2_with fail;refine HS.mono ?_;rintro e w1⟨rfl,Aj⟩;have HB1:=Hi Aj;clear Aj;go_wp2_with fail;refine(HH _).mono ?_;rintro e w2⟨rfl,Ac⟩;have Ak:=bH HB1 Ac;clear Ac;go_wp2;go_ret;exact⟨rfl,Ak⟩
theorem uP{c:UInt8}{name:T}(h:¬ (name.length=17∧name.head?=some c)):Np c name=false:=by
 unfold Np;by_cases h1:name.length=17
 ·by_cases h2:name.head?=some c
  ·exact absurd ⟨h1,h2⟩ h
  ·have:(name.head? == some c)=false:=(by simpa using h2);rw[this];simp
 ·have:(name.length == 17)=false:=by simpa using h1
  rw[this];simp
theorem ama{c:UInt8}{name:T}(h1:name.length=17)(h2:name.head?=some c):Np c name=(Gs (name.drop 1)).isSome:=by
 unfold Np;rw[h1,h2];simp
theorem aoh(s:T):decide ((MG s).2=0)=(Gs s).isSome:=by
 unfold MG;cases Gs s<;>rfl
theorem aya(name:T)(w:World)(hn:name.length≤1000000):Calls prog 199 #[.string (bs name)] w fun e w'=>e=.returned (.bool (Ah.ours name))∧Bw w w':=by
 show Calls _ _ _ _ fun e w'=>e=.returned (.bool (Np 109 name))∧_
 by_cases h1:name.length=17
 ·have h1i:(name.length:Int)=17:=by omega
  have hlt:0 < name.length:=by omega
  have kR:(0:Int) < (name.length:Int):=by omega
  have hd:name.head?=some name[0]:=by
   cases name with
   |nil=>simp at h1
   |cons a l=>rfl
  by_cases h2:name[0]=109
  ·have hR:=Hi (ama (c:=109) h1 (by rw[hd,h2]));have hcut:∀ W,(Instr.slice 9 (.string (bs name)) (some (.int .i64 1)) none none).run prog W=.ok (.string (bs (name.drop 1))) W:=fun W=>ME prog W 9 underlying9 name 1 (by omega)
   have jF:(name[0].toNat:Int)=109:=(by rw[h2];rfl);have HU:=Hi (adN (name.drop 1) w (by rw[Ct];omega));have HV:=Hi (aoh (name.drop 1));rw[hR.out,←HV.out];generalize MG (name.drop 1)=V at*;clear hd h2 HV hR;generalize name.drop 1=dn at*
   go_in
   go_wp2_with fail;refine HU.mono ?_;rintro e w1⟨rfl,hb⟩;have HB:=Hi hb;clear hb;go_wp2;go_ret;exact⟨by simp;rfl,HB⟩
  ·have hR:Hid (Np 109 name=false):=Hi (uP (fun h=>h2 (by have:=h.2;rw[hd] at this;injection this)));have jF:¬ (name[0].toNat:Int)=109:=fun e=>h2 (by apply UInt8.toNat_inj.1;have h9:(109:UInt8).toNat=109:=rfl;rw[h9];omega)
   rw[hR.out];clear hd h2
   go_in
   go_wp2;go_ret;exact⟨rfl,Ai _ _⟩
 ·have h1i:¬ (name.length:Int)=17:=by omega
  have hR:Hid (Np 109 name=false):=Hi (uP (fun h=>h1 h.1));rw[hR.out]
  go_in
  go_wp2;go_ret;exact⟨rfl,Ai _ _⟩
end Mem
namespace Mem
open Go.Maps
open Av Ag Ar Bt Kp BI Hex BH
theorem gJ:∀ {L:List T} {a:T},BK L=some a→∀ t∈L,t.length≤65535
 |[],_,_,t,h=>by simp at h
 |x :: L,a,h,t,ht=>by
  simp only[BK] at h;cases h1:Eg x with
  |none=>rw[h1] at h;cases h
  |some u=>
   cases h2:BK L with
   |none=>rw[h1,h2] at h;cases h
   |some c=>
    rcases Cc.1 ht with rfl|ht
    ·unfold Eg at h1;split at h1
     ·assumption
     ·cases h1
    ·exact gJ h2 t ht
theorem aad{s:T}{l:M}(h:I1 s=some l):l.length≤65535∧∀ p∈l,p.1.length≤65535∧p.2.length≤65535:=by
 have h2:=(ahJ h).2;unfold FO at h2;split at h2
 ·rename_i hn
  cases h1:BK (flat l) with
  |none=>rw[h1] at h2;cases h2
  |some a=>
   refine⟨hn,fun p hp=>⟨gJ h1 _ (Nv.2 ⟨p,hp,by simp⟩),gJ h1 _ (Nv.2 ⟨p,hp,by simp⟩)⟩⟩
 ·cases h2
theorem gp{K:Kind}{name data:T}{l:M}(h:K.CB name data=some l):l.length≤65535∧∀ p∈l,p.1.length≤65535∧p.2.length≤65535:=by
 obtain⟨_,h2,_,s,h4,_⟩:=Nr h;exact aad (qK h4 (CU.Ra h2))
def Mj(w:World)(r:Option M)(e:Ending)(w':World):Prop:=match r with
 |none=>e=.returned (.tuple #[.slice none 0 0,.bool false])∧Bw w w'
 |some l=>∃ q cap,e=.returned (.tuple #[.slice q l.length cap,.bool true])∧BJ w' w.heap.size (.slice q l.length cap) l∧(q=none→cap=0)∧Bw w w'
theorem M0{w w':World}{r:Option M}{e:Ending}(h:r=none)(he:e=.returned (.tuple #[.slice none 0 0,.bool false]))(hb:Bw w w'):Mj w r e w':=by
 subst h;exact⟨he,hb⟩
theorem mJ{w w':World}{r:Option M}{e:Ending}{l:M}{q:Option Addr}{cap:Nat}(h:r=some l)(he:e=.returned (.tuple #[.slice q l.length cap,.bool true]))(hr:BJ w' w.heap.size (.slice q l.length cap) l)(hq:q=none→cap=0)(hb:Bw w w'):Mj w r e w':=by
 subst h;exact⟨q,cap,he,hr,hq,hb⟩
theorem axX(name data:T):Ah.CB name data=if(A9.Ey data).2=0 then(I1 (A9.Ey data).1).bind fun l=>if l≠[]∧(E8 l).length=l.length∧∀ p∈l,Ah.nm p.1=name then some l else none else none:=by
 unfold Kind.CB aL;have:∀ p:T×T,(Ah.ok p=true)=True:=fun p=>by simp[Ah]
 simp only[this,and_true]
theorem ao0{P:T×T→Prop}{l:M}{k:Nat}(hk:k < l.length)(h:∀ p∈l.take k,P p)(hp:P l[k]):∀ p∈l.take (k+1),P p:=fun p h'=>by
 rw[Cx hk] at h';rcases Eh.1 h' with h'|h'
 ·exact h p h'
 ·rw[FJ.1 h'];exact hp
def afD(w:World)(q:Option Addr)(cap:Nat)(l:M)(name:T)(i:Value)(wr:World):Prop:=∃ k:Nat,k≤l.length∧i=.int .i64 k∧Bw w wr∧BJ wr w.heap.size (.slice q l.length cap) l∧∀ p∈l.take k,Ah.nm p.1=name
theorem ayd(name data:T)(w:World)(hd:data.length≤1000000):Calls prog 157 #[.string (bs name),.string (bs data)] w fun e w'=>Mj w (Ah.CB name data) e w':=by
 have Qs:=Hi (axX name data);have HO:=Hi (am7 data w (by omega));have CG:(A9.Ey data).1.length≤1000000:=by
  by_cases h:(A9.Ey data).2=0
  ·have:=congrArg List.length (A9.acK h);rw[A9.Sl] at this;omega
  ·unfold A9.Ey at h ⊢;split
   ·simp
   ·split
    ·rename_i h1 h2
     rw[Ab h1,Ad h2] at h;exact absurd rfl h
    ·simp
 generalize (A9.Ey data).1=s at*;generalize (A9.Ey data).2=c at*;have HG:=Hi (fun(W:World)=>amk s W (by omega));by_cases hc:c=0
 ·subst hc;cases hg:I1 s with
  |none=>
   have hR:Hid (Ah.CB name data=none):=Hi (by rw[Qs.out,Ad rfl,hg];rfl);have Dg:=Hi (show ∀ W,Calls prog 229 #[.string (bs s)] W fun e w'=>e=.returned (.tuple #[.slice none 0 0,.int .i64 7])∧Bw W w' from fun W=>by have:=HG W;unfold VO at this;rw[hg] at this;exact this);clear HG Qs hg
   go_in
   go_wp2_with fail;refine HO.mono ?_;rintro e w1⟨rfl,Aj⟩;have HB1:=Hi Aj;clear Aj;go_wp2_with fail;refine(Dg _).mono ?_;rintro e w2⟨rfl,Ac⟩;have Ak:=bH HB1 Ac;clear Ac;go_wp2;go_ret2;exact M0 hR.out rfl Ak.out
  |some l=>
   have Dg:=Hi (show ∀ W,Calls prog 229 #[.string (bs s)] W fun e w'=>∃ v,e=.returned (.tuple #[v,.int .i64 0])∧BJ w' W.heap.size v l∧Bw W w' from fun W=>by have:=HG W;unfold VO at this;rw[hg] at this;exact this);have YQ:=Hi (show Ah.CB name data=if l≠[]∧(E8 l).length=l.length∧∀ p∈l,Ah.nm p.1=name then some l else none from by rw[Qs.out,Ad rfl,hg];rfl);obtain⟨hl,hsh⟩:=aad hg;have Rz:=Hi hsh;clear HG Qs hg hsh;by_cases hz:l=[]
   ·have hR:Hid (Ah.CB name data=none):=Hi (by rw[YQ.out,Ab (fun h=>h.1 hz)]);have AY:(l.length:Int)=0:=(by rw[hz];rfl);clear hz
    go_in
    go_wp2_with fail;refine HO.mono ?_;rintro e w1⟨rfl,Aj⟩;have HB1:=Hi Aj;clear Aj;go_wp2_with fail;refine(Dg _).mono ?_;rintro e w2⟨v,rfl,Af,Ac⟩;obtain⟨q,cap,rfl,Hl,BN⟩:=FH Af;have Ak:=bH HB1 Ac;clear Ac Af;go_wp2;go_ret2;exact M0 hR.out rfl Ak.out
   ·have AY:¬ (l.length:Int)=0:=fun e=>hz (Ld.1 (by omega))
    have hzb:((l.length:Int) == 0)=false:=FQ.2 AY;by_cases hk:(E8 l).length=l.length
    ·have iM:=Hi (show Ah.CB name data=if ∀ p∈l,Ah.nm p.1=name then some l else none from by
      rw[YQ.out];by_cases h:∀ p∈l,Ah.nm p.1=name
      ·rw[Ad ⟨hz,hk,h⟩,Ad h]
      ·rw[Ab (fun x=>h x.2.2),Ab h])
     have dW:((E8 l).length:Int)=(l.length:Int):=by omega
     go_in
     go_wp2_with fail;refine HO.mono ?_;rintro e w1⟨rfl,Aj⟩;have HB1:=Hi Aj;clear Aj;go_wp2_with fail;refine(Dg _).mono ?_;rintro e w2⟨v,rfl,Af,Ac⟩;obtain⟨q,cap,rfl,Hl,BN⟩:=FH Af;have Ak:=bH HB1 Ac;have Ck:=Hi (EA Af HB1.size);have JW:=Hi (fT (w:=w2) (Bf.CX Af) Hl (by omega));clear Ac Af;go_wp2_with fail;refine JW.mono ?_;rintro e w3⟨kv,rfl,Cz,Ap⟩;obtain⟨kq,kc,rfl⟩:=Bo Cz;have Pq:=Hi (Cg Ck Ap);have Au:=bH Ak Ap;clear Ap Cz;go_wp2
     go_loopw [10,40] (fun _ i wr=>afD w q cap l name i wr) (fun _ i _=>l.length -(intOf i).toNat)
     case atStart=>exact⟨0,AV _,rfl,Au,Pq,fun p h=>by simp at h⟩
     case round=>
      obtain⟨k,Dw,rfl,hb,hr,hall⟩:=hrel;have HB:=Hi hb;have HR:=Hi hr;have HA:=Hi hall;clear hall Au Pq hb;by_cases hlt:k < l.length
      ·obtain⟨a,Cs,ha,-⟩:=(Bf.CX hr).index cap k hlt;have c0:=ha.key;have c1:=ha.val;have hsk:=(Rz _ (CQ hlt)).1;have HT:=Hi (ao0 (P:=fun p=>Ah.nm p.1=name) hlt HA)
       have HF:=Hi (show Ah.nm l[k].1≠name→Ah.CB name data=none from fun hne=>by
        rw[iM.out,Ab (fun h=>hne (h _ (CQ hlt)))])
       generalize l[k]=x at*;have HN:=Hi (fun(W:World)=>uA x.1 W (by omega));clear ha hr;go_wp2_with fail;refine(HN _).mono ?_;rintro e w4⟨rfl,AB⟩;have Lt:=Hi (Cg (HR.alloc _) AB);have AX:=Hi ((HB.alloc HB.size _).trans (AB.mono (by have:=HB.size;rw[Ay];omega)));clear AB;have Hf:=Hi (show Ah.nm x.1=name→∀ p∈l.take (k+1),Ah.nm p.1=name from HT.out);clear HT;generalize Ah.nm x.1=nx at*;by_cases heq:nx=name
       ·go_wp2;go_roundw
        case rel=>
         have Il:=Hi (show afD w q cap l name (.int .i64 ((k:Int)+1)) w4 from⟨k+1,by omega,by go_num,AX,Lt,Hf heq⟩);exact Il.out
        case measure=>
         show l.length -((k:Int)+1).toNat < l.length -((k:Int)).toNat
         omega
       ·have hR:=Hi (HF heq);have ZU:(nx == name)=false:=FQ.2 heq;clear HF Hf;go_wp2;go_ret2;exact M0 hR.out rfl AX.out
      ·obtain rfl:k=l.length:=by omega
       have hR:Hid (Ah.CB name data=some l):=Hi (by
        rw[iM.out,Ad];have:=HA.out;rwa[Da] at this)
       clear hr;go_wp2;go_ret2;exact mJ hR.out rfl HR Hl HB.out
    ·have hR:Hid (Ah.CB name data=none):=Hi (by rw[YQ.out,Ab (fun h=>hk h.2.1)]);have dW:¬ ((E8 l).length:Int)=(l.length:Int):=(by omega);have RO:(((E8 l).length:Int) != (l.length:Int))=true:=bne_iff_ne.2 dW
     go_in
     go_wp2_with fail;refine HO.mono ?_;rintro e w1⟨rfl,Aj⟩;have HB1:=Hi Aj;clear Aj;go_wp2_with fail;refine(Dg _).mono ?_;rintro e w2⟨v,rfl,Af,Ac⟩;obtain⟨q,cap,rfl,Hl,BN⟩:=FH Af;have Ak:=bH HB1 Ac;have JW:=Hi (fT (w:=w2) (Bf.CX Af) Hl (by omega));clear Ac Af;go_wp2_with fail;refine JW.mono ?_;rintro e w3⟨kv,rfl,Cz,Ap⟩;obtain⟨kq,kc,rfl⟩:=Bo Cz;have Au:=bH Ak Ap;clear Ap Cz;go_wp2;go_ret2;exact M0 hR.out rfl Au.out
 ·have hR:Hid (Ah.CB name data=none):=Hi (by rw[Qs.out,Ab hc]);clear HG Qs
  go_in
  go_wp2_with fail;refine HO.mono ?_;rintro e w1⟨rfl,Aj⟩;have HB1:=Hi Aj;clear Aj;go_wp2;go_ret2;exact M0 hR.out rfl HB1.out
def Gi(w:World)(p y:Nat):Prop:=w.heap[p]?=some (.cells #[.pointer (some ⟨y,0,none⟩)] 160)
theorem Gi.cell{w:World}{p y:Nat}(h:Gi w p y):w.cell? ⟨p,0,none⟩=some (.pointer (some ⟨y,0,none⟩)):=by
 rw[BL _ _ _ _ _ _ h];rfl
theorem Gi.lt{w:World}{p y:Nat}(h:Gi w p y):p < w.heap.size:=Ao h
theorem Gi.below{w w':World}{p y:Nat}(h:Gi w p y)(hb:Bw w w'):Gi w' p y:=(hb.block p (Ao h)).trans h
theorem alU(y:Nat)(w:World):Calls prog 26 #[.pointer (some ⟨y,0,none⟩)] w fun e w'=>∃ p,e=.returned (.tuple #[.pointer (some ⟨p,0,none⟩),.int .i64 0])∧Gi w' p y∧w.heap.size≤p∧Bw w w':=by
 go_in
 go_wp2;go_ret2;exact⟨_,rfl,AQ w _,Ae _,AU w _⟩
def Qx(K:Kind)(w:World)(A:M)(name:T)(e:Ending)(w':World):Prop:=∃ q cap,e=.returned (.tuple #[.slice q ((fileOf K A name).getD []).length cap,.bool (Ag.get A name).isSome,.bool (fileOf K A name).isSome])∧BJ w' w.heap.size (.slice q ((fileOf K A name).getD []).length cap) ((fileOf K A name).getD [])∧(q=none→cap=0)∧Bw w w'
theorem WL(w:World)(base:Nat):BJ w base (.slice none 0 0) []:=by unfold BJ;rw[QC];exact DZ _ _ _ _
theorem acF{w:World}{p y:Nat}{A:M}(hm:Gi w p y)(hg:Ar.Pb w y A)(name:T)(hn:name.length≤1000):Calls prog 74 #[.pointer (some ⟨p,0,none⟩),.string (bs name)] w fun e w'=>Qx Ah w A name e w':=by
 have c:=hm.cell;have HG:=Hi (hg.gets w (Ai _ _) name hn);have hs:=hg.small name;have HF:=Hi (show fileOf Ah A name=(Ag.get A name).bind (Ah.CB name) from rfl);clear hg hm;cases hx:Ag.get A name with
 |none=>
  rw[hx] at HG HF;have hF:fileOf Ah A name=none:=HF.out;have HP:=Hi (show ∀ W',Bw w W'→Qx Ah w A name (.returned (.tuple #[.slice none 0 0,.bool false,.bool false])) W' from fun W' hb=>⟨none,0,by rw[hF,hx];rfl,by rw[hF];exact WL _ _,fun _=>rfl,hb⟩);clear hx HF hF hs
  go_in
  go_wp2_with fail;refine HG.mono ?_;rintro e w1⟨rfl,Aj⟩;have HB1:=Hi Aj;clear Aj;go_wp2_with fail;exact EU (v:=.tuple #[.slice none 0 0,.bool false,.bool false]) (by simp[results,results74,go_sem]) rfl (HP _ HB1)
 |some d=>
  rw[hx] at HG HF;have hF:fileOf Ah A name=Ah.CB name d:=HF.out;have KV:d.length≤1000000:=by rw[hx] at hs;exact hs
  have HR:=Hi (fun(W:World)=>ayd name d W KV);have Qr:=Hi (show(Ag.get A name).isSome=true from by rw[hx];rfl);clear HF hs hx;cases hr:Ah.CB name d with
  |none=>
   rw[hr] at HR hF;have HP:=Hi (show ∀ W',Bw w W'→Qx Ah w A name (.returned (.tuple #[.slice none 0 0,.bool true,.bool false])) W' from fun W' hb=>⟨none,0,by rw[hF,Qr.out];rfl,by rw[hF];exact WL _ _,fun _=>rfl,hb⟩);clear hF hr Qr
   go_in
   go_wp2_with fail;refine HG.mono ?_;rintro e w1⟨rfl,Aj⟩;have HB1:=Hi Aj;clear Aj;go_wp2_with fail;refine(HR _).mono ?_;rintro e w2⟨rfl,Ac⟩;have Ak:=bH HB1 Ac;clear Ac;go_wp2_with fail;exact EU (v:=.tuple #[.slice none 0 0,.bool true,.bool false]) (by simp[results,results74,go_sem]) rfl (HP _ Ak)
  |some l=>
   rw[hr] at HR hF;have HP:=Hi (show ∀ (W':World) (q:Option Addr) (cap:Nat),BJ W' w.heap.size (.slice q l.length cap) l→(q=none→cap=0)→Bw w W'→Qx Ah w A name (.returned (.tuple #[.slice q l.length cap,.bool true,.bool true])) W' from fun W' q cap h1 h2 hb=>⟨q,cap,by rw[hF,Qr.out];rfl,by rw[hF];exact h1,h2,hb⟩);clear hF hr Qr
   go_in
   go_wp2_with fail;refine HG.mono ?_;rintro e w1⟨rfl,Aj⟩;have HB1:=Hi Aj;clear Aj;go_wp2_with fail;refine(HR _).mono ?_;rintro e w2⟨q,cap,rfl,Af,Hl,Ac⟩;have Ak:=bH HB1 Ac;have HW:=Hi (EA Af HB1.size);clear Ac Af;go_wp2_with fail;exact EU (v:=.tuple #[.slice q l.length cap,.bool true,.bool true]) (by simp[results,results74,go_sem]) rfl (HP _ _ _ HW Hl Ak)
def NJ(K:Kind)(A:M)(key:T):T×Bool×Int:=if(Ag.get A (K.nm key)).isSome=true∧(fileOf K A (K.nm key)).isSome=false then([],false,50) else match Cq K A key with
 |some v=>(v,true,0)
 |none=>([],false,0)
theorem nA(K:Kind)(A:M)(key:T):Cq K A key=Ag.get ((fileOf K A (K.nm key)).getD []) key:=by
 unfold Cq;cases fileOf K A (K.nm key)<;>rfl
theorem ahL{l:M}{k:Nat}(hk:k < l.length)(key:T):Ag.get (l.drop k) key=if l[k].1=key then some l[k].2 else Ag.get (l.drop (k+1)) key:=by
 rw[Rk hk];unfold Ag.get;by_cases h:l[k].1=key
 ·rw[Ad h,List.find?_cons_of_pos (by simpa using h)];rfl
 ·rw[Ab h,List.find?_cons_of_neg (by simpa using h)]
theorem dx{K:Kind}{A:M}{name:T}:((fileOf K A name).getD []).length≤65535∧∀ p∈(fileOf K A name).getD [],p.1.length≤65535∧p.2.length≤65535:=by
 cases h:fileOf K A name with
 |none=>exact⟨by simp,fun p hp=>by simp at hp⟩
 |some l=>
  unfold fileOf at h;cases hg:Ag.get A name with
  |none=>rw[hg] at h;cases h
  |some d=>rw[hg] at h;exact gp h
theorem au1{K:Kind}{A:M}{key:T}(h1:(Ag.get A (K.nm key)).isSome=true)(h2:(fileOf K A (K.nm key)).isSome=false):NJ K A key=([],false,50):=Ad ⟨h1,h2⟩
theorem au2{K:Kind}{A:M}{key:T}(h:¬ ((Ag.get A (K.nm key)).isSome=true∧(fileOf K A (K.nm key)).isSome=false)):NJ K A key=match Ag.get ((fileOf K A (K.nm key)).getD []) key with
 |some v=>(v,true,0)
 |none=>([],false,0):=by unfold NJ;rw[Ab h,nA]
def nQ(w:World)(q:Option Addr)(cap:Nat)(l:M)(key:T)(i:Value)(wr:World):Prop:=∃ k:Nat,k≤l.length∧i=.int .i64 k∧Bw w wr∧Bf wr q l∧Ag.get l key=Ag.get (l.drop k) key
theorem XB{w w':World}{y:Nat}{A:M}(h:Ar.Pb w y A)(hb:Bw w w'):Ar.Pb w' y A:=⟨fun W hW k hk=>h.gets W (bT hb hW) k hk,h.small⟩
theorem acE(key:T):(Ah.nm key).length=17:=JL.len key
theorem alQ{w:World}{p y:Nat}{A:M}(hm:Gi w p y)(hg:Ar.Pb w y A)(key:T)(hk:key.length≤1000000):
  Calls prog 21 #[.pointer (some ⟨p,0,none⟩),.string (bs key)] w fun e w'=>e=.returned (.tuple #[.string (bs (NJ Ah A key).1),.bool (NJ Ah A key).2.1,.int .i64 (NJ Ah A key).2.2])∧Bw w w':=by
 have HN:=Hi (uA key w hk);have HO:=Hi (fun(W:World) (hW:Bw w W)=>acF (hm.below hW) (XB hg hW) (Ah.nm key) (by rw[acE];decide));have HV:=Hi (@au2 Ah A key);have HB:=Hi (@au1 Ah A key);obtain⟨hl,-⟩:=@dx Ah A (Ah.nm key);unfold Qx at HO;clear hm hg;generalize (fileOf Ah A (Ah.nm key)).getD []=l at*;generalize (fileOf Ah A (Ah.nm key)).isSome=good at*;generalize (Ag.get A (Ah.nm key)).isSome=WH at*;generalize NJ Ah A key=V at*;generalize Ah.nm key=name at*;by_cases NL:WH=true∧good=false
 ·obtain⟨rfl,rfl⟩:=NL;have hV:=HB rfl rfl;clear HB HV;subst hV
  go_in
  go_wp2_with fail;refine HN.mono ?_;rintro e w1⟨rfl,Aj⟩;have HB1:=Hi Aj;clear Aj;go_wp2_with fail;refine(HO _ HB1).mono ?_;rintro e w2⟨q,cap,rfl,Af,Hl,Ac⟩;have Ak:=bH HB1 Ac;clear Ac Af;go_wp2_with fail;exact EU (v:=.tuple #[.string (bs []),.bool false,.int .i64 50]) (by simp[results,results21,go_sem];rfl) rfl ⟨rfl,Ak⟩
 ·have Xg:=Hi (HV NL);clear HB HV;have DF:WH=false∨(WH=true∧good=true):=by
   cases WH<;>cases good<;>simp_all
  clear NL;rcases DF with rfl|⟨rfl,rfl⟩
  all_goals
   go_in
   go_wp2_with fail;refine HN.mono ?_;rintro e w1⟨rfl,Aj⟩;have HB1:=Hi Aj;clear Aj;go_wp2_with fail;refine(HO _ HB1).mono ?_;rintro e w2⟨q,cap,rfl,Af,Hl,Ac⟩;have Ak:=bH HB1 Ac;have HP:=Hi (Bf.CX Af);clear Ac Af;go_wp2
   go_loopw [10,28] (fun _ i wr=>nQ w q cap l key i wr) (fun _ i _=>l.length -(intOf i).toNat)
   case atStart=>exact⟨0,AV _,rfl,Ak,HP,rfl⟩
   case round=>
    obtain⟨k,Dw,rfl,hb,hp,NS⟩:=hrel;have Au:=Hi hb;have SQ:=Hi hp;have HG:=Hi NS;clear Ak HP hb NS;by_cases hlt:k < l.length
    ·obtain⟨a,Cs,ha,-⟩:=hp.index cap k hlt;have c0:=ha.key;have c1:=ha.val;have HD:=Hi (HG.trans (ahL hlt key));generalize l[k]=x at*;clear ha hp;by_cases heq:x.1=key
     ·have hV:=Xg.out;rw[HD.out,Ad heq] at hV;subst hV;have ZU:(x.1 == key)=true:=beq_iff_eq.2 heq;go_wp2_with fail;exact EU (v:=.tuple #[.string (bs x.2),.bool true,.int .i64 0]) (by simp[results,results21,go_sem]) rfl ⟨rfl,Au.alloc Au.size _⟩
     ·have ZU:(x.1 == key)=false:=FQ.2 heq;have Ny:=Hi (HD.trans (Ab heq));go_wp2;go_roundw
      case rel=>
       have Il:=Hi (show ∀ o,nQ w q cap l key (.int .i64 ((k:Int)+1)) (wr.alloc o) from fun o=>⟨k+1,by omega,by go_num,Au.alloc Au.size o,SQ.below (AU wr o),Ny⟩)
       first
       |exact Il _
       |(repeat apply Exists.intro
         refine⟨?_,rfl⟩;exact Il _)
      case measure=>
       show l.length -((k:Int)+1).toNat < l.length -((k:Int)).toNat
       omega
    ·obtain rfl:k=l.length:=(by omega);have hV:=Xg.out;rw[HG.out,List.drop_length] at hV;change V=([],false,0) at hV;subst hV;clear hp;go_wp2_with fail;exact EU (v:=.tuple #[.string (bs []),.bool false,.int .i64 0]) (by simp[results,results21,go_sem];rfl) rfl ⟨rfl,Au⟩
theorem ay5{w:World}{p y:Nat}{A:M}(hm:Gi w p y)(hg:Ar.Pb w y A)(key:T)(hk:key.length≤1000000):
  Calls prog 152 #[.pointer (some ⟨p,0,none⟩),.string (bs key)] w fun e w'=>e=.returned (.bool (NJ Ah A key).2.1)∧Bw w w':=by
 have H:=Hi (alQ hm hg key hk);clear hm hg;generalize NJ Ah A key=V at*
 go_in
 go_wp2_with fail;refine H.mono ?_;rintro e w1⟨rfl,Aj⟩;have HB1:=Hi Aj;clear Aj;go_wp2;go_ret;exact⟨rfl,HB1⟩
theorem axV{w:World}{p y:Nat}{c:Int}{P:World→World→Prop}(hm:Gi w p y)(hf:Calls prog 175 #[.pointer (some ⟨y,0,none⟩)] w fun e w'=>e=.returned (.int .i64 c)∧P w w'):
  Calls prog 92 #[.pointer (some ⟨p,0,none⟩)] w fun e w'=>e=.returned (.int .i64 c)∧P w w':=by
 have c0:=hm.cell;have HF:=Hi hf;clear hf hm
 go_in
 go_wp2_with fail;refine HF.mono ?_;rintro e w1⟨rfl,Aj⟩;go_wp2;go_ret;exact⟨rfl,Aj⟩
end Mem
section
open Go.Maps
open Ag
def Ku(dn:Bool)(w:World)(b y:Nat)(bl:Nat→Prop)(n N:Nat)(A A':M):Prop:=match dn with
 |false=>A=A'∧Fa true w b y bl n N A
 |true=>U4 w b y bl n N A A'
def YI(w:World)(b y:Nat)(bl:Nat→Prop)(n N:Nat)(A A':M):Prop:=
 ∃ D fp m x gv F D' F',BB w b D fp∧Db w y b m x gv F∧¬ fp m∧D.loose.length≤300000000∧D.n=n∧bY D F' D'∧D'.left= -1∧F'.w.gen≤N∧(F'.m=A∨F'.m=A')∧(∀ k,fp k∨Tc y m x gv k→bl k)
section
variable {w w':World}{b y n N:Nat}{bl:Nat→Prop}{A A':M}{dn:Bool}
theorem Ku.upd{P:Nat→Prop}(h:Ku dn w b y bl n N A A')(hu:A7 P w w')(hs:∀ k,Bb w k 9→¬ P k)(hP:∀ k,bl k→¬ P k):Ku dn w' b y bl n N A A':=by
 cases dn with
 |false=>exact⟨h.1,Fa.upd h.2 hu hs hP⟩
 |true=>exact U4.upd h hu hs hP
theorem Ku.below(h:Ku dn w b y bl n N A A')(hb:Bw w w'):Ku dn w' b y bl n N A A':=h.upd (ub hb) (fun _ _ f=>f) (fun _ _ f=>f)
theorem Ku.shrink(h:Ku dn w b y bl n N A A'):Ku dn w b y (fun k=>bl k∧k < w.heap.size) n N A A':=by
 cases dn with
 |false=>exact⟨h.1,Fa.shrink h.2⟩
 |true=>
  obtain⟨D,fp,m,x,gv,F,h1,h2,h3,h4,h5,h6,h7,h8,h9,IZ⟩:=h;exact⟨D,fp,m,x,gv,F,h1,h2,h3,h4,h5,h6,h7,h8,h9,fun k hk=>⟨IZ k hk,hk.elim (h1.lt k) (h2.lt k)⟩⟩
theorem Ku.parts(h:Ku dn w b y bl n N A A'):∃ D fp m x gv F,BB w b D fp∧Db w y b m x gv F∧¬ fp m∧F.fault=(if dn then 40 else 0)∧D.loose.length≤100000000∧D.n=n∧Ag.Good A∧F.m=A∧(∀ k,fp k∨Tc y m x gv k→bl k)∧
  (∀ keep,∃ F' D',bY (D.GX keep) F' D'∧D'.left= -1∧F'.w.gen≤N∧(F'.m=A∨F'.m=A')):=by
 cases dn with
 |false=>
  obtain⟨e,D,fp,m,x,gv,F,h1,h2,h3,h4,h5,h6,h7,h8,h9⟩:=h;subst e;exact⟨D,fp,m,x,gv,F,h1,h2,h3,h4.fault,by rw[h4.disk.loose];simp,h6,by rw[←h8];exact h4.good,h8,h9,fun keep=>⟨F,D.GX keep,(h4.GX keep).opens,rfl,h7,.inl h8⟩⟩
 |true=>
  obtain⟨D,fp,m,x,gv,F,h1,h2,h3,h4,h5,h6,h7,h8,h9,IZ⟩:=h;exact⟨D,fp,m,x,gv,F,h1,h2,h3,h4,h5,h6,h7.1,h8,IZ,h9⟩
theorem agY{m x:Nat}{gv:Value}{F:St}(h:Db w y b m x gv F):Calls prog 22 #[.pointer (some ⟨y,0,none⟩)] w fun e w'=>e=.returned (.pointer (some ⟨b,0,none⟩))∧w=w':=by
 obtain⟨c0,_⟩:=h.cells;clear h
 go_in
 go_wp2;go_ret;exact⟨rfl,rfl⟩
theorem asE(h:Ku dn w b y bl n N A A'):Calls prog 22 #[.pointer (some ⟨y,0,none⟩)] w fun e w'=>e=.returned (.pointer (some ⟨b,0,none⟩))∧w=w':=by
 obtain⟨D,fp,m,x,gv,F,h1,h2,_⟩:=h.parts;exact agY h2
theorem atq(h:YI w b y bl n N A A'):Calls prog 22 #[.pointer (some ⟨y,0,none⟩)] w fun e w'=>e=.returned (.pointer (some ⟨b,0,none⟩))∧w=w':=by
 obtain⟨D,fp,m,x,gv,F,D',F',h1,h2,_⟩:=h;exact agY h2
theorem asF(h:Ku dn w b y bl n N A A')(k:Int)(hk:k≤9223372036854775807):
  Calls prog 23 #[.pointer (some ⟨b,0,none⟩),.int .i64 k] w fun e w'=>e=.returned (.int .i64 0)∧Ku dn w' b y bl n N A A'∧A7 (Gx w bl) w w':=by
 cases dn with
 |false=>
  obtain⟨e,D,fp,m,x,gv,F,h1,h2,h3,h4,h5,h6,h7,h8,h9⟩:=h;refine(aho h1 k hk).mono ?_;rintro e' w'⟨rfl,p1,p2⟩;exact⟨rfl,⟨e,D.QE k,fp,m,x,gv,F,p1,h2.upd p2 (fun k hk e=>h1.Dl _ e (by decide) (by decide) hk) (Te h1 h2 h3),h3,h4.QE hk,(fun e=>by cases e),h6,h7,h8,h9⟩,p2.mono (fun k hk=>fM h1 h2 h9 k (.inl hk))⟩
 |true=>
  obtain⟨D,fp,m,x,gv,F,h1,h2,h3,h4,h5,h6,h7,h8,h9,IZ⟩:=h;refine(aho h1 k hk).mono ?_;rintro e' w'⟨rfl,p1,p2⟩;exact⟨rfl,⟨D.QE k,fp,m,x,gv,F,p1,h2.upd p2 (fun k hk e=>h1.Dl _ e (by decide) (by decide) hk) (Te h1 h2 h3),h3,h4,h5,h6,h7,h8,h9,IZ⟩,p2.mono (fun k hk=>fM h1 h2 IZ k (.inl hk))⟩
theorem asD(h:Ku dn w b y bl n N A A')(keep:List UInt8)(hk:keep.length≤1000000000):
  Calls prog 24 #[.pointer (some ⟨b,0,none⟩),.string (bs keep)] w fun e w'=>e=.returned (.int .i64 0)∧∃ C8,YI w' b y C8 n N A A'∧A7 (Gx w bl) w w'∧∀ k,C8 k→bl k∨w.heap.size≤k:=by
 obtain⟨D,fp,m,x,gv,F,h1,h2,h3,h4,h5,h6,h7,h8,h9,IZ⟩:=h.parts;have EH:=h2.map.lt;refine(arO h1 keep (by omega) hk).mono ?_;rintro e w'⟨rfl,fp',p1,p2,p3⟩;obtain⟨F',D',q1,q2,q3,q4⟩:=IZ keep;refine⟨rfl,fun k=>bl k∨w.heap.size≤k,⟨D.GX keep,fp',m,x,gv,F,D',F',p1,h2.upd p2 (fun k hk e=>h1.Dl _ e (by decide) (by decide) hk) (Te h1 h2 h3),fun e=>(p3 m e).elim h3 (fun f=>by omega),by show(0:Nat)≤_;omega,h6,q1,q2,q3,q4,?_⟩,p2.mono (fun k hk=>fM h1 h2 h9 k (.inl hk)),fun k hk=>hk⟩;rintro k (hk|hk)
 ·exact(p3 k hk).imp (fun e=>h9 k (.inl e)) id
 ·exact .inl (h9 k (.inr hk))
