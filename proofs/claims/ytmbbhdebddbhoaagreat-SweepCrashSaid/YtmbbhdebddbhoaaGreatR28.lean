/- AllD DepG DropP PrsDel -/
import Derived.Test.YtmbbhdebddbhoaaGreatR27
import Derived.Lib.SliceRun
set_option maxHeartbeats 4000000
set_option maxRecDepth 100000
set_option linter.all false
namespace Go.Proofs.YtmbbhdebddbhoaaGreat
open Tryz
namespace Dep
open Go.RowKit Go.Maps
open Wal Fil Man Prs Kp Cm Hex Sha Al Mem
theorem afL(p:Nat)(w:World):
  Calls prog 40 #[.pointer (some ⟨p,0,none⟩)] w fun e w'=>e=.returned (.func (.func 111) #[] #[.pointer (some ⟨w.heap.size,0,none⟩)])∧w'=w.alloc (.cells #[.pointer (some ⟨p,0,none⟩)] 37):=by
 go_enter func40,ntmps40;go_wp2_with fail;go_ret;exact⟨rfl,rfl⟩
theorem afK(n:Nat)(hn:1≤n){w:World}{p y:Nat}{A:M}(hm:GM w p y)(hf:Lf w y A)(oc Bx:Nat){J:Nat→List T→World→Prop}(hJ:Yr w oc J)(w1:World):
  Yv n prog 111 #[.pointer (some ⟨Bx,0,none⟩)] oz (Rq w oc Bx (.pointer (some ⟨p,0,none⟩)) 37 A9 A J) (VU w oc Bx (.pointer (some ⟨p,0,none⟩)) 37 A9 A J) (fun xs=>xs.map (·.name)=JB A9 A) w1:=by
 intro l Bk W TS hY hW h0 hk0;have zL:Bw w W∧w.heap.size≤oc∧oc < Bx∧W.heap[Bx]?=some (.cells #[.pointer (some ⟨p,0,none⟩)] 37)∧∃ B,B≤W.heap.size∧J B [] W:=by
  rcases h0 with⟨-,h⟩|⟨B0,q0,c0,g1,-,g2,g3⟩
  ·exact h
  ·exact⟨g1.Ay,g1.low,g1.lt,g1.box,B0,g1.size,g3⟩
 obtain⟨g1,g2,g3,g4,B0,g5,g6⟩:=zL;clear h0;have NZ:W.cell? ⟨Bx,0,none⟩=some (.pointer (some ⟨p,0,none⟩)):=cr g4;have SB:=(hm.below g1).cell;have IC:=Hi (hf.names W g1);have G1:=Hi g1;have G2:=Hi g2;have G3:=Hi g3;have G4:=Hi g4;have G5:=Hi g5;have G6:=Hi g6;have Jk:=Hi hk0;have QE:=Hi TS;have HJ:=Hi hJ;have HM:=Hi hm;have HF:=Hi hf;have hlen:=hf.len;clear g1 g2 g3 g4 g5 g6 hk0 TS hJ hm hf;refine callsIn_of_wp func111 rfl trivial ?_ rfl;simp only[ntmps111,JG,Br,Ig,Nat.reduceAdd,Nat.reduceSub,LX,LY,M3,LZ,Eu,GI]
 gi_wp2
 refine⟨trivial,(Di.2 IC).mono ?_⟩;rintro e w2⟨v,rfl,Ah,A8,hown⟩;have Ag:=Hi (G1.trans (A8.mono G1.size));have ja:Bk w2:=QE _ _ Jk (Uj (ub A8) (fun _ _ f=>f.elim));have KN:J w2.heap.size [] w2:=HJ.raise _ _ _ (HJ.below _ _ _ _ G6 A8) (Ap G5 A8.size) (Ac _);obtain⟨q,c,rfl⟩:∃ q c,v=.slice q (A.map (·.1)).length c:=by
  rw[Cf];exact Bg Ah
 have Vd:MO w oc Bx w2.heap.size (.pointer (some ⟨p,0,none⟩)) 37 q c (A.map (·.1)) w2:=⟨Ag,G2,G3,DK (Ai G4) A8.size,Ac _,(A8.block _ (Ai G4)).trans G4,by rw[Cf] at Ah ⊢;exact Ah,fun k hk=>⟨DK (Nat.lt_trans G3 (Ai G4)) (hown k hk),by
  obtain⟨cs,fz,h⟩:=BQ Ah hk;exact Ai h⟩⟩
 have Ru:=Hi Vd;have Y6:=Hi KN;have fA:=Hi ja;generalize w2.heap.size=B at*;clear Vd KN ja Ah A8 hown IC G1 G2 G3 G4 G5 G6 Jk;have Yb:=Hi (show ∀ t∈A.map (·.1),t.length≤1000 from fun t ht=>HF.short t ht);have EB:((A.map (·.1)).length:Int)=(A.length:Int):=by rw[Cf]
 gi_wp2
 gi_loopw [16] (fun i wr=>mg w oc Bx B (.pointer (some ⟨p,0,none⟩)) 37 q c A9 A J Bk i wr) (fun i _=>A.length -(intOf i).toNat)
 case atStart=>exact⟨0,[],AB _,rfl,Ru,fun z hz=>by simp at hz,rfl,Y6,fA⟩
 case round=>
  obtain⟨k,xs,hk,rfl,h1,jq,h2,h3,h4⟩:=hrel;have Y3:=Hi jq;have H1:=Hi h1;have H2:=Hi h2;have H3:=Hi h3;have H4:=Hi h4;clear h2 h3 h4 jq Ru Y6 fA;by_cases hlt:k < A.length
  ·have Sz:k < (A.map (·.1)).length:=(by rw[Cf];exact hlt);obtain⟨a,Cu,c0⟩:=(Ea (c:=c) h1.row).index c k Sz;simp only[Cf] at Cu;have Jw:∀ t∈A.map (·.1),t.length≤1000:=Yb.out;have Ki:=Jw _ (Ci Sz);have BN:=Hi (ac9 (f:=A9.ours) Sz);have Yk:=Hi (agA (f:=A9.ours) Sz);generalize (A.map (·.1))[k]=name at*;have HO:=Hi (ar8 name wr (by omega));clear Jw;have YM:wr.cell? ⟨Bx,0,none⟩=some (.pointer (some ⟨p,0,none⟩)):=cr h1.box;have OJ:=h1.Ay;have Bc:=Hi OJ;clear h1 OJ
   gi_wp2
   refine⟨trivial,(Di.2 HO).mono ?_⟩;rintro e w3⟨rfl,Ak⟩;have aar:w3.cell? ⟨Bx,0,none⟩=some (.pointer (some ⟨p,0,none⟩)):=(Ak.cell (BS YM)).trans YM;have Hy:=Hi (H1.below Ak);have fV:=Hi (HJ.below _ _ _ _ H3 Ak);have M8:=Hi (QE _ _ H4 (Uj (ub Ak) (fun _ _ f=>f.elim)));clear Ak Cu c0 HO YM;cases SF:A9.ours name with
   |false=>
    have HX:=Hi (show xs.map (·.name)=((A.map (·.1)).take (k+1)).filter A9.ours from by rw[BN.out,SF,H2.out];simp);clear BN Yk SF
    gi_wp2
    go_roundw
    case rel=>exact⟨k+1,xs,by omega,by go_num,Hy,Y3,HX,fV,M8⟩
    case measure=>
     show A.length -((k:Int)+1).toNat < A.length -((k:Int)).toNat
     omega
   |true=>
    have HX:=Hi (show xs.map (·.name)++[name]=((A.map (·.1)).take (k+1)).filter A9.ours from by rw[BN.out,SF,H2.out];simp);have xx:=Hi (show xs.map (·.name)++name :: ((A.map (·.1)).drop (k+1)).filter A9.ours=JB A9 A from by rw[H2.out];exact Yk SF);have Gr:=Hi (oh (HM.below (Hy.Ay)) (HF.pE Hy.Ay) name Ki);clear BN Yk SF
    gi_wp2
    refine⟨trivial,(Di.2 Gr).mono ?_⟩;rintro e w4⟨q2,c2,rfl,Ah,Gz,Ar⟩;have NP:=Hi (Hy.below Ar);have vW:=Hi (HJ.below _ _ _ _ fV Ar);have Wl:=Hi (QE _ _ M8 (Uj (ub Ar) (fun _ _ f=>f.elim)));obtain⟨x,FH,Hm,SS,VE,VD⟩:∃ x:J6,x.name=name∧x.row=.slice q2 ((fileOf A9 A name).getD []).length c2∧x.B=B∧x.q=q∧x.c=c:=⟨⟨name,_,B,q,c⟩,rfl,rfl,rfl,rfl,rfl⟩;have Xa:VU w oc Bx (.pointer (some ⟨p,0,none⟩)) 37 A9 A J xs x w4:=⟨by rw[SS,VE,VD];exact NP.out,by rw[SS,VE,VD];exact Y3.out,⟨_,by rw[FH];exact xx.out⟩,by rw[SS];exact vW.out,⟨q2,c2,by rw[FH];exact Hm,by rw[FH];exact AO.CG Ah,Gz,by rw[FH];exact alA Ah⟩⟩;obtain⟨fn,tmps,assign,body,hy,hR⟩:=hY xs _ w4 Xa Wl.out;have HR:=Hi hR;unfold oz at hy;rw[FH,Hm] at hy;have xG:=Hi (show(xs++[x]).map (·.name)=((A.map (·.1)).take (k+1)).filter A9.ours from by rw[CF,List.map_singleton,FH];exact HX.out);have xK:=Hi (show x.B=B∧x.q=q∧x.c=c from⟨SS,VE,VD⟩);have gW:=Hi (show x∈xs++[x] from by simp);generalize (xs++[x])=xs2 at*;clear FH Hm SS VE VD hR Xa Ah Ar aar;generalize ((fileOf A9 A name).getD []).length=ln at*
    gi_wp2
    refine HR.mono ?_;rintro e w5⟨rfl,h5,h6⟩
    have CU:=Hi (show mg w oc Bx B (.pointer (some ⟨p,0,none⟩)) 37 q c A9 A J Bk (.int .i64 ((k:Int)+1)) w5 from by
     rcases h5 with⟨e,-⟩|⟨B',q',c',k1,k2,k3,k4⟩
     ·have:=gW.out;rw[e] at this;simp at this
     ·obtain⟨e1,e2,e3⟩:=k2 _ gW;obtain⟨f1,f2,f3⟩:=xK.out;obtain rfl:B'=B:=e1.symm.trans f1;obtain rfl:q'=q:=e2.symm.trans f2;obtain rfl:c'=c:=e3.symm.trans f3;exact⟨k+1,xs2,by omega,by go_num,k1,k2,xG,k4,h6⟩)
    clear h5 h6 hy HR
    gi_wp2
    go_roundw
    case rel=>exact CU.out
    case measure=>
     show A.length -((k:Int)+1).toNat < A.length -((k:Int)).toNat
     omega
  ·obtain rfl:k=A.length:=by omega
   have HE:=Hi (show xs.map (·.name)=JB A9 A from by
    rw[H2.out,Gn (by rw[Cf];exact Ac _)];rfl)
   clear h1
   gi_wp2
   go_end0
   exact⟨⟨_,rfl⟩,xs,HE,.inr ⟨B,q,c,H1,Y3,⟨[],by rw[EH,HE.out]⟩,H3⟩,H4.out⟩
theorem kV(w:World)(base:Nat):Man.Bp w base (.slice none 0 0) []:=by unfold Man.Bp;rw[JE];exact EI _ _ _ _
theorem aml{w:World}{base:Nat}{e:TypeId}{s n:Nat}{v:Value}{cs:List Value}(h:w.ownsRow 0 e s v n cs)(hg:∀ g,v.ownBlock=some g→base≤g):w.ownsRow base e s v n cs:=by
 refine⟨h.1,?_⟩;rcases h.2 with h|⟨g,cap,cur,k1,k2,k3⟩
 ·exact .inl h
 ·exact .inr ⟨g,cap,cur,k1,hg g (by rw[k1];rfl),k3⟩
def getU(A:M)(run:T):List T×Bool×Int:=if(Fil.get A (A9.nm run)).isSome=true∧(fileOf A9 A (A9.nm run)).isSome=false then([],false,50) else match Dk A9 A run with
 |some v=>((CW v).getD [],true,0)
 |none=>([],false,0)
theorem asC(A:M)(key:T)(h1:(Fil.get A (A9.nm key)).isSome=true)(h2:(fileOf A9 A (A9.nm key)).isSome=false):getU A key=([],false,50):=Ab ⟨h1,h2⟩
theorem asD(A:M)(key:T)(h:¬ ((Fil.get A (A9.nm key)).isSome=true∧(fileOf A9 A (A9.nm key)).isSome=false)):getU A key=match Fil.get ((fileOf A9 A (A9.nm key)).getD []) key with
 |some v=>((CW v).getD [],true,0)
 |none=>([],false,0):=by unfold getU;rw[Aa h,lS]
theorem ig(key:T):(A9.nm key).length=17:=I5.len key
theorem afU(p:T×T)(w:World)(hp:p.2.length≤65535):Calls prog 107 #[.agg #[.string (bs p.1),.string (bs p.2)]] w fun e w'=>∃ v,e=.returned v∧Man.Bp w' w.heap.size v ((CW p.2).getD [])∧Bw w w':=by
 have HR:=Hi (fun(W:World)=>kT p.2 W (by omega));have Ao:=Hi (Aw w (.cells #[.string (bs p.1),.string (bs p.2)] 75));unfold Go.Proofs.YtmbbhdebddbhoaaGreat.Lr at HR;cases hr:CW p.2 with
 |none=>
  simp only[hr] at HR;clear hr;go_enter func107,ntmps107;go_wp2_with fail;refine(HR _).mono ?_;rintro e w1⟨rfl,hb⟩;have HB:=Hi (Ao.trans (hb.mono Ao.size));clear hb;go_wp2_with fail;go_ret;exact⟨_,rfl,kV _ _,HB⟩
 |some l=>
  simp only[hr] at HR;clear hr;go_enter func107,ntmps107;go_wp2_with fail;refine(HR _).mono ?_;rintro e w1⟨v,rfl,Ah,hb,hg⟩;obtain⟨q,c,rfl⟩:=Bg Ah;have HB:=Hi (Ao.trans (hb.mono Ao.size));have UL:=Hi (aml (base:=w.heap.size) Ah (fun g Sn=>Ap Ao.size (hg g Sn)));clear hb Ah hg;go_wp2_with fail;go_ret;exact⟨_,rfl,UL,HB⟩
theorem afR{w:World}{p y:Nat}{A:M}(hm:GM w p y)(hg:Man.ND w y A)(key:T)(hk:key.length≤1000000):
  Calls prog 35 #[.pointer (some ⟨p,0,none⟩),.string (bs key)] w fun e w'=>∃ v,e=.returned (.tuple #[v,.bool (getU A key).2.1,.int .i64 (getU A key).2.2])∧Man.Bp w' w.heap.size v (getU A key).1∧Bw w w':=by
 have HN:=Hi (og key w hk);have HO:=Hi (fun(W:World) (hW:Bw w W)=>oh (hm.below hW) (TQ hg hW) (A9.nm key) (by rw[ig];decide));have HV:=Hi (asD A key);have HB:=Hi (asC A key);obtain⟨hl,Nq⟩:=@V7 A9 A (A9.nm key);unfold OB at HO;clear hm hg;generalize (fileOf A9 A (A9.nm key)).getD []=l at*;generalize (fileOf A9 A (A9.nm key)).isSome=good at*;generalize (Fil.get A (A9.nm key)).isSome=VG at*;generalize getU A key=V at*;generalize A9.nm key=name at*;by_cases Nh:VG=true∧good=false
 ·obtain⟨rfl,rfl⟩:=Nh;have hV:=HB rfl rfl;clear HB HV;subst hV;go_enter func35,ntmps35;go_wp2_with fail;refine HN.mono ?_;rintro e w1⟨rfl,Ad⟩;have HB1:=Hi Ad;clear Ad;go_wp2_with fail;refine(HO _ HB1).mono ?_;rintro e w2⟨q,cap,rfl,Ah,Gz,A8⟩;have Ag:=Hi (HB1.trans (A8.mono HB1.size));clear A8 Ah;go_wp2_with fail;exact El (v:=.tuple #[.slice none 0 0,.bool false,.int .i64 50]) (by simp[results,results35,go_sem]) rfl ⟨_,rfl,kV _ _,Ag⟩
 ·have Wx:=Hi (HV Nh);clear HB HV;have Dv:VG=false∨(VG=true∧good=true):=by
   cases VG<;>cases good<;>simp_all
  clear Nh;rcases Dv with rfl|⟨rfl,rfl⟩
  all_goals
   go_enter func35,ntmps35;go_wp2_with fail;refine HN.mono ?_;rintro e w1⟨rfl,Ad⟩;have HB1:=Hi Ad;clear Ad;go_wp2_with fail;refine(HO _ HB1).mono ?_;rintro e w2⟨q,cap,rfl,Ah,Gz,A8⟩;have Ag:=Hi (HB1.trans (A8.mono HB1.size));have HP:=Hi (AO.CG Ah);clear A8 Ah;go_wp2_with fail
   go_loopw [11,29] (fun _ i wr=>mo w q cap l key i wr) (fun _ i _=>l.length -(intOf i).toNat)
   case atStart=>exact⟨0,AB _,rfl,Ag,HP,rfl⟩
   case round=>
    obtain⟨k,Db,rfl,hb,hp,Nk⟩:=hrel;have Am:=Hi hb;have RH:=Hi hp;have HG:=Hi Nk;clear Ag HP hb Nk;by_cases hlt:k < l.length
    ·obtain⟨a,Cu,ha,-⟩:=hp.index cap k hlt;have c0:=ha.key;have c1:=ha.val;have HD:=Hi (HG.trans (ah1 hlt key));have Zk:=(Nq _ (Ci hlt)).2;generalize l[k]=x at*;clear ha hp;by_cases heq:x.1=key
     ·have hV:=Wx.out;rw[HD.out,Ab heq] at hV;subst hV;obtain⟨xk,xv⟩:=x;have heq:xk=key:=heq;subst heq;have Ze:(xk == xk)=true:=beq_self_eq_true xk;have aj:=Hi (fun(W:World)=>afU (xk,xv) W Zk);have c0:wr.cell? a=some (.string (bs xk)):=c0;have c1:wr.cell? ⟨a.block,a.off+1,none⟩=some (.string (bs xv)):=c1;have av4:=Am.size;go_wp2_with fail;refine(aj _).mono ?_;rintro e w5⟨kv,rfl,Ch,Bf⟩;obtain⟨kq,kc,rfl⟩:=Bg Ch;have PH:=Hi (E9 Ch (by rw[Aq];omega:w.heap.size≤(wr.alloc _).heap.size));have Ck:=Hi ((Am.alloc Am.size _).trans (Bf.mono (by rw[Aq];omega)));clear Ch Bf;go_wp2_with fail;exact El (v:=.tuple #[.slice kq ((CW xv).getD []).length kc,.bool true,.int .i64 0]) (by simp[results,results35,go_sem]) rfl ⟨_,rfl,PH,Ck⟩
     ·have Ze:(x.1 == key)=false:=H9.2 heq;have MP:=Hi (HD.trans (Aa heq));go_wp2_with fail;go_roundw
      case rel=>
       have JQ:=Hi (show ∀ o,mo w q cap l key (.int .i64 ((k:Int)+1)) (wr.alloc o) from fun o=>⟨k+1,by omega,by go_num,Am.alloc Am.size o,RH.below (Aw wr o),MP⟩)
       first
       |exact JQ _
       |(repeat apply Exists.intro
         refine⟨?_,rfl⟩;exact JQ _)
      case measure=>
       show l.length -((k:Int)+1).toNat < l.length -((k:Int)).toNat
       omega
    ·obtain rfl:k=l.length:=(by omega);have hV:=Wx.out;rw[HG.out,List.drop_length] at hV;have hV:V=([],false,0):=hV;subst hV;clear hp;go_wp2_with fail;exact El (v:=.tuple #[.slice none 0 0,.bool false,.int .i64 0]) (by simp[results,results35,go_sem]) rfl ⟨_,rfl,kV _ _,Am⟩
end Dep
namespace Kp
open Go.Lib Go.RowKit Fil Man Wal Prs
structure IA(K:Kind)(A:M)(kt:List T)(L:List (T×M)):Prop where
 nodup:(L.map (·.1)).Nodup
 names:∀ t,t∈L.map (·.1)↔t∈kt.map K.nm
 rows:∀ x∈L,x.2=GG K A kt x.1
section
variable {K:Kind}{A:M}
theorem IA.nil:IA K A [] []:=⟨by simp,fun t=>by simp,fun x hx=>by simp at hx⟩
theorem aw1{kt:List T}{name:T}:∀ p∈GG K A kt name,K.nm p.1=name:=by
 intro p hp;unfold GG at hp;have h1:=(Et.1 hp).1;cases hf:fileOf K A name with
 |none=>rw[hf] at h1;simp at h1
 |some l=>
  rw[hf] at h1;unfold fileOf at hf;cases hg:get A name with
  |none=>rw[hg] at hf;cases hf
  |some d=>
   rw[hg] at hf;exact((Pj hf).2.2.1 _ h1).1
theorem rV(kt:List T)(k name:T):GG K A (kt++[k]) name=(GG K A kt name).filter fun p=>!(p.1 == k):=by
 unfold GG;rw[List.filter_filter];refine List.filter_congr fun p _=>?_
 by_cases h1:p.1=k<;>by_cases h2:p.1∈kt<;>simp[h1,h2]
theorem abU(kt:List T){k name:T}(h:K.nm k≠name):GG K A (kt++[k]) name=GG K A kt name:=by
 rw[rV];refine List.filter_eq_self.2 fun p hp=>?_
 have:=aw1 p hp;have:p.1≠k:=fun e=>h (by rw[←e];exact this)
 simpa using this
def setRow(L:List (T×M))(name:T)(l:M):List (T×M):=L.map fun x=>if x.1=name then(x.1,l) else x
theorem dY(L:List (T×M))(name:T)(l:M):(setRow L name l).map (·.1)=L.map (·.1):=by
 unfold setRow;rw[List.map_map];exact QB fun x _=>by
  show(if x.1=name then(x.1,l) else x).1=x.1
  split<;>rfl
theorem IA.more{kt:List T}{L:List (T×M)}(h:IA K A kt L){k:T}(hk:K.nm k∈L.map (·.1)):IA K A (kt++[k]) (setRow L (K.nm k) ((GG K A kt (K.nm k)).filter fun p=>!(p.1 == k))):=by
 refine⟨by rw[dY];exact h.nodup,fun t=>?_,fun x hx=>?_⟩
 ·rw[dY,h.names,CF,Fp];constructor
  ·exact .inl
  ·rintro(e|e)
   ·exact e
   ·rw[List.map_singleton,EX] at e;rw[e];exact(h.names _).1 hk
 ·unfold setRow at hx;obtain⟨y,hy,rfl⟩:=Bz.1 hx;by_cases e:y.1=K.nm k
  ·rw[Ab e]
   show _=GG K A (kt++[k]) y.1
   rw[e,rV]
  ·rw[Aa e,abU _ (fun e'=>e e'.symm)];exact h.rows y hy
theorem IA.new{kt:List T}{L:List (T×M)}(h:IA K A kt L){k:T}(hk:K.nm k∉L.map (·.1)):IA K A (kt++[k]) ((K.nm k,((fileOf K A (K.nm k)).getD []).filter fun p=>!(p.1 == k)) :: L):=by
 refine⟨JF.2 ⟨hk,h.nodup⟩,fun t=>?_,fun x hx=>?_⟩
 ·rw[BL,Bt,h.names,CF,Fp];constructor
  ·rintro(e|e)
   ·exact .inr (by simp[e])
   ·exact .inl e
  ·rintro(e|e)
   ·exact .inr e
   ·exact .inl (by simpa using e)
 ·rcases Bt.1 hx with rfl|hx
  ·show _=GG K A (kt++[k]) (K.nm k)
   have e:((fileOf K A (K.nm k)).getD []).filter (fun p=>decide (p.1∉kt))=(fileOf K A (K.nm k)).getD []:=List.filter_eq_self.2 fun p hp=>by
    have h1:K.nm p.1=K.nm k:=by
     cases hf:fileOf K A (K.nm k) with
     |none=>rw[hf] at hp;simp at hp
     |some l=>
      rw[hf] at hp;unfold fileOf at hf;cases hg:get A (K.nm k) with
      |none=>rw[hg] at hf;cases hf
      |some d=>
       rw[hg] at hf;exact((Pj hf).2.2.1 _ hp).1
    have:p.1∉kt:=fun e=>hk ((h.names _).2 (Bz.2 ⟨p.1,e,h1⟩))
    simpa using this
   rw[rV];unfold GG;rw[e]
  ·rw[h.rows x hx,abU _ (fun e=>hk (by rw[e];exact Gm hx))]
theorem IA.ib{ks:List T}{L:List (T×M)}(hg:Fil.Good A)(h:IA K A ks L)(ht:There K A ks):K7 L=EM K A ks∧OH L=true:=by
 have hn:CQ L=AX (ks.map K.nm):=by
  rw[sK h.nodup];refine Qw (Iq _) (Iq _) fun t=>?_
  rw[Eg,Eg];exact h.names t
 have hr:∀ t∈CQ L,rowOf L t=GG K A ks t:=fun t ht=>by
  obtain⟨x,hx,rfl⟩:=Bz.1 (kL.1 ht);rw[kW h.nodup hx,h.rows x hx]
 constructor
 ·unfold K7 EM;rw[←hn];refine QB fun t ht=>?_
  rw[hr t ht];rfl
 ·unfold OH;rw[Nz];intro t hm;rw[hr t hm];rw[hn] at hm;obtain⟨d,l,h1,h2,h3,h4,h5⟩:=iq hg ht hm;have e:GG K A ks t=l.filter (fun p=>decide (p.1∉ks)):=by unfold GG;rw[h3];rfl
  unfold Mh;rw[e];rcases h5 with⟨h5,_⟩|⟨s,h5,h6,_⟩
  ·rw[h5];rfl
  ·rw[h6];simp
end
end Kp
namespace Prs
open Go.RowKit Go.Maps
open Fil Man
def VW(K:World→Prop)(v:Value)(f:T×T→Bool):Prop:=
 ∃ F recv Lt,v=.func (.func F) recv Lt∧(∀ args w,(callFunc F args).run prog w=.ok (.enter F args) w)∧
  ∀ W p,K W→Calls prog F (recv++ #[.agg #[.string (bs p.1),.string (bs p.2)]]++Lt) W fun e W'=>e=.returned (.bool (f p))∧Bw W W'
def Pb(f:T×T→Bool)(l:M):Int:=match l.findIdx? f with
 |some i=>(i:Int)
 |none=> -1
theorem avn{f:T×T→Bool}{l:M}{k:Nat}(hk:k < l.length)(h:f l[k]=true)(hn:∀ j (hj:j < k),f (l[j]'(by omega))=false):Pb f l=(k:Int):=by
 have:l.findIdx? f=some k:=List.findIdx?_eq_some_iff_getElem.2 ⟨hk,h,fun j hj=>by rw[hn j hj];decide⟩;unfold Pb;rw[this]
theorem avm{f:T×T→Bool}{l:M}(hn:∀ j (hj:j < l.length),f l[j]=false):Pb f l= -1:=by
 have:l.findIdx? f=none:=List.findIdx?_eq_none_iff.2 fun x hx=>by
  obtain⟨i,hi,rfl⟩:=List.getElem_of_mem hx;exact hn i hi
 unfold Pb;rw[this]
theorem avl(f:T×T→Bool)(l:M):decide (0≤Pb f l)=l.any f:=by
 unfold Pb;cases h:l.findIdx? f with
 |none=>
  have:=List.findIdx?_eq_none_iff.1 h;have e:l.any f=false:=by simpa using this
  rw[e];rfl
 |some i=>
  obtain⟨hi,h1,_⟩:=List.findIdx?_eq_some_iff_getElem.1 h;have e:l.any f=true:=List.any_eq_true.2 ⟨_,Ci hi,h1⟩;rw[e];simp
theorem avk(f:T×T→Bool)(l:M):(Pb f l= -1∧l.filter (fun x=>!f x)=l)∨∃ k,∃ hk:k < l.length,Pb f l=(k:Int)∧f l[k]=true∧∀ j (hj:j < k),f (l[j]'(by omega))=false:=by
 unfold Pb;cases h:l.findIdx? f with
 |none=>
  refine .inl ⟨rfl,List.filter_eq_self.2 fun x hx=>?_⟩;rw[List.findIdx?_eq_none_iff.1 h x hx];rfl
 |some k=>
  obtain⟨hk,h1,h2⟩:=List.findIdx?_eq_some_iff_getElem.1 h;exact .inr ⟨k,hk,rfl,h1,fun j hj=>by simpa using h2 j hj⟩
theorem acn{w:World}{K:World→Prop}{v:Value}{f:T×T→Bool}{a:Option Addr}{l:M}(cap:Nat)(hl:AO w a l)(hf:VW K v f)(hK:∀ W,Bw w W→K W)(hlen:l.length≤1000000000):
  Calls prog 145 #[.slice a l.length cap,v] w fun e w'=>e=.returned (.int .i64 (Pb f l))∧Bw w w':=by
 obtain⟨F,recv,Lt,rfl,KJ,LB⟩:=hf;have HL:=Hi hl;have HC:=Hi LB;have HK:=Hi hK;clear hl LB hK;go_enter func145,ntmps145;go_wp2_with fail
 go_loopw [5,8] (fun _ i wr=>∃ k:Nat,k≤l.length∧i=.int .i64 k∧Bw w wr∧∀ j (hj:j < k),(h:j < l.length)→f l[j]=false) (fun _ i _=>l.length -(intOf i).toNat)
 case atStart=>exact⟨0,AB _,rfl,Af _ _,fun j hj=>by omega⟩
 case round=>
  obtain⟨k,hk,rfl,hb,CO⟩:=hrel;have Eb:=Hi CO;have HB:=Hi hb;clear CO;by_cases hlt:k < l.length
  ·obtain⟨q,Cu,hq,-⟩:=(HL.below hb).index cap k hlt;have c0:=hq.key;have c1:=hq.val;have BH:=HC wr l[k] (HK wr hb);have Y4:=Hi (show f l[k]=true→Pb f l=(k:Int) from fun h=>avn hlt h (fun j hj=>Eb j hj (by omega)))
   have EL:=Hi (show f l[k]=false→∀ j (hj:j < k+1),(h:j < l.length)→f l[j]=false from fun h j hj h'=>by
    by_cases e:j=k
    ·subst e;exact h
    ·exact Eb j (by omega) h')
   generalize l[k]=x at*;have Ev:=Hi BH;clear BH hq hb;go_wp2_with fail;refine Ev.mono ?_;rintro e w1⟨rfl,Ad⟩;have HB1:=Hi (HB.trans (Ad.mono HB.size));generalize f x=s at*;clear Ad;cases s with
   |true=>
    have vT:=Hi (Y4 rfl);clear Y4 EL;go_wp2_with fail;go_ret;exact⟨by rw[vT.out];rfl,HB1⟩
   |false=>
    have HN:=Hi (EL rfl);clear Y4 EL;go_wp2_with fail;go_roundw
    case rel=>exact⟨k+1,by omega,by go_num,HB1,HN⟩
    case measure=>simp[intOf];omega
  ·obtain rfl:k=l.length:=(by omega);have HN:=Hi (show Pb f l= -1 from avm (fun j hj=>Eb j hj hj));clear hb;go_wp2_with fail;go_ret;exact⟨by rw[HN.out];rfl,HB⟩
theorem ax9{w:World}{K:World→Prop}{v:Value}{f:T×T→Bool}{a:Option Addr}{l:M}(cap:Nat)(hl:AO w a l)(hf:VW K v f)(hK:∀ W,Bw w W→K W)(hlen:l.length≤1000000000):
  Calls prog 108 #[.slice a l.length cap,v] w fun e w'=>e=.returned (.bool (l.any f))∧Bw w w':=by
 have HI:=Hi (acn cap hl hf hK hlen);have HE:=Hi (avl f l);clear hl hf hK;generalize Pb f l=i at*;go_enter func108,ntmps108;go_wp2_with fail;refine HI.mono ?_;rintro e w1⟨rfl,hb⟩;have HB:=Hi hb;clear hb;go_wp2_with fail;go_ret;exact⟨by rw[←HE.out];rfl,HB⟩
theorem ayr(w:World)(ty:TypeId)(b o n c:Nat)(hn:0 < n)(hc:∀ j,j < n*2→(w.cell? ⟨b,o+j,none⟩).isSome=true)(hf:∀ j,j < n*2→w.frozen? ⟨b,o+j,none⟩=false):
  (Builtin.clear_ #[22] ty #[.slice (some ⟨b,o,none⟩) n c]).run prog w=.ok (.tuple #[]) (w.setCells b o (List.replicate (n*2) (.string ByteArray.empty))):=by
 have hzc:(Builtin.zeroCells (Value.agg #[.string ByteArray.empty,.string ByteArray.empty]).cells n).toList=List.replicate (n*2) (.string ByteArray.empty):=by
  simp[Builtin.zeroCells,Value.cells];apply List.ext_getElem
  ·simp
  ·intro i h1 h2;simp;rcases Nat.mod_two_eq_zero_or_one i with e|e<;>simp[e]
 have AP:=run_storeCells_cells (P:=prog) b o (List.replicate (n*2) (.string ByteArray.empty)) 0 w (by simpa using hc) (by simpa using hf) (by intro v Jd;rw[List.eq_of_mem_replicate Jd];rfl);simp only[Nat.add_zero] at AP;obtain⟨m,rfl⟩:∃ m,n=m+1:=⟨n -1,by omega⟩;have avf:(Builtin.zeroCells (Value.agg #[.string { data:=#[] },.string { data:=#[] }]).cells (m+1)).toList=List.replicate ((m+1)*2) (.string ByteArray.empty):=hzc;simp[Builtin.clear_,Gp underlying22,Tryz.zeroValue75];rw[avf,AP];rfl
theorem ayO(C:Array Value)(a:Nat)(x y:Value)(t:Nat)(ha:a+1 < C.size):((C.setIfInBounds a x).setIfInBounds (a+1) y)[t]?=if t=a+1 then some y else if t=a then some x else C[t]? :=by
 rw[Array.getElem?_setIfInBounds];by_cases e1:a+1=t
 ·subst e1;rw[Ab rfl,Ab rfl,Ab (by rw[Array.size_setIfInBounds];exact ha)]
 ·have e1':¬ t=a+1:=fun h=>e1 h.symm
  rw[Aa e1,Aa e1',Array.getElem?_setIfInBounds];by_cases e2:a=t
  ·subst e2;rw[Ab rfl,Ab rfl,Ab (by omega)]
  ·have e2':¬ t=a:=fun h=>e2 h.symm
   rw[Aa e2,Aa e2']
structure MZ(w wr:World)(g cap:Nat)(f:T×T→Bool)(l:M)(i j:Nat):Prop where
 upd:A7 (fun k=>k=g) w wr
 blk:∃ cur,wr.heap[g]?=some (.cells cur 75 (0,0))∧cur.size=cap*2
 kept:i=((l.take j).filter (fun x=>!f x)).length
 front:∀ t (h:t < ((l.take j).filter (fun x=>!f x)).length),OC wr ⟨g,t*2,none⟩ (((l.take j).filter (fun x=>!f x))[t])
 back:∀ t,j≤t→(h:t < l.length)→OC wr ⟨g,t*2,none⟩ l[t]
 lt:i < j
 le:j≤l.length
 cap:l.length≤cap
theorem alu{f:T×T→Bool}{l:M}{j:Nat}(h:j < l.length)(hf:f l[j]=true):(l.take (j+1)).filter (fun x=>!f x)=(l.take j).filter (fun x=>!f x):=by
 rw[Cw h,Ro];simp[hf]
theorem axc{f:T×T→Bool}{l:M}{j:Nat}(h:j < l.length)(hf:f l[j]=false):(l.take (j+1)).filter (fun x=>!f x)=(l.take j).filter (fun x=>!f x)++[l[j]]:=by
 rw[Cw h,Ro];simp[hf]
section
variable {w wr wr':World}{g cap:Nat}{f:T×T→Bool}{l:M}{i j:Nat}
theorem MZ.below(h:MZ w wr g cap f l i j)(hb:Bw wr wr'):MZ w wr' g cap f l i j:=by
 obtain⟨cur,hc,hs⟩:=h.blk;exact⟨h.upd.trans (ub hb) (fun _ f=>f.elim),⟨cur,(hb.block g (Ai hc)).trans hc,hs⟩,h.kept,fun t ht=>(h.front t ht).upd (ub hb) (fun f=>f),fun t ht hl=>(h.back t ht hl).upd (ub hb) (fun f=>f),h.lt,h.le,h.cap⟩
theorem MZ.strike(h:MZ w wr g cap f l i j)(hj:j < l.length)(hf:f l[j]=true):MZ w wr g cap f l i (j+1):=by
 have e:=alu hj hf;exact⟨h.upd,h.blk,by rw[e];exact h.kept,fun t ht=>by simp only[e];exact h.front t (by rw[e] at ht;exact ht),fun t ht hl=>h.back t (by omega) hl,by have:=h.lt;omega,hj,h.cap⟩
theorem MZ.keep(h:MZ w wr g cap f l i j)(hj:j < l.length)(hf:f l[j]=false):MZ w ((wr.setCell ⟨g,i*2,none⟩ (.string (bs l[j].1))).setCell ⟨g,i*2+1,none⟩ (.string (bs l[j].2))) g cap f l (i+1) (j+1):=by
 have e:=axc hj hf;obtain⟨cur,hb,hs⟩:=h.blk;have hlt:=h.lt;have hle:=h.le;have hcp:=h.cap;have auW:=BU wr g (i*2) _ _ (.string (bs l[j].1)) hb;have Dt:=BU _ g (i*2+1) _ _ (.string (bs l[j].2)) auW;have FE:∀ t,((wr.setCell ⟨g,i*2,none⟩ (.string (bs l[j].1))).setCell ⟨g,i*2+1,none⟩ (.string (bs l[j].2))).cell? ⟨g,t,none⟩=if t=i*2+1 then some (.string (bs l[j].2)) else if t=i*2 then some (.string (bs l[j].1)) else wr.cell? ⟨g,t,none⟩:=fun t=>by
  rw[BA _ g _ _ _ _ Dt,BA _ g _ _ _ _ hb];exact ayO cur (i*2) _ _ t (by omega)
 have hk:=h.kept;have stay:∀ t (p:T×T),t≠i→OC wr ⟨g,t*2,none⟩ p→OC ((wr.setCell ⟨g,i*2,none⟩ (.string (bs l[j].1))).setCell ⟨g,i*2+1,none⟩ (.string (bs l[j].2))) ⟨g,t*2,none⟩ p:=fun t p hne hp=>
  ⟨by rw[FE,Aa (by omega),Aa (by omega)];exact hp.key,by show World.cell? _ ⟨g,t*2+1,none⟩=_;rw[FE,Aa (by omega),Aa (by omega)];exact hp.val⟩
 refine⟨(h.upd.setCell (p:=⟨g,i*2,none⟩) (.inl rfl) _).setCell (p:=⟨g,i*2+1,none⟩) (.inl rfl) _,⟨_,Dt,by rw[Array.size_setIfInBounds,Array.size_setIfInBounds];exact hs⟩,by rw[e,Au];simp;omega,fun t ht=>?_,fun t ht hl=>stay t _ (by omega) (h.back t (by omega) hl),by omega,hj,hcp⟩;simp only[e];rw[e,Au] at ht;simp only[Br,Ig] at ht;by_cases ht2:t=i
 ·subst ht2;rw[Ux (by omega)];simp only[hk,Nat.sub_self,List.getElem_cons_zero];rw[←hk];exact⟨by rw[FE,Aa (by omega),Ab rfl],by show World.cell? _ ⟨g,t*2+1,none⟩=_;rw[FE,Ab rfl]⟩
 ·rw[Rp (by omega)];exact stay t _ ht2 (h.front t (by omega))
theorem MZ.cells(h:MZ w wr g cap f l i j):(∀ t,t < cap*2→(wr.cell? ⟨g,t,none⟩).isSome=true)∧∀ t,wr.frozen? ⟨g,t,none⟩=false:=by
 obtain⟨cur,hb,hs⟩:=h.blk;refine⟨fun t ht=>?_,fun t=>CJ wr g t _ _ hb⟩;rw[BA wr g _ _ _ _ hb,VT (by omega)];rfl
end
theorem amD(b:Nat):∀ (vs:List Value) (o:Nat) (w:World) (cur:Array Value),w.heap[b]?=some (.cells cur 75 (0,0))→∃ cur',(w.setCells b o vs).heap[b]?=some (.cells cur' 75 (0,0))∧cur'.size=cur.size
 |[],_,_,cur,h=>⟨cur,h,rfl⟩
 |v :: r,o,w,cur,h=>by
  obtain⟨c2,h2,s2⟩:=amD b r (o+1) (w.setCell ⟨b,o,none⟩ v) (cur.setIfInBounds o v) (BU w b o _ _ v h);exact⟨c2,h2,by rw[s2,Array.size_setIfInBounds]⟩
theorem axa{w:World}{g cap:Nat}{f:T×T→Bool}{l:M}{k:Nat}(hb:∃ cur,w.heap[g]?=some (.cells cur 75 (0,0))∧cur.size=cap*2)(hl:∀ t,(h:t < l.length)→OC w ⟨g,t*2,none⟩ l[t])(hc:l.length≤cap)(hk:k < l.length)(hf:f l[k]=true)(hn:∀ j (hj:j < k),f (l[j]'(by omega))=false):MZ w w g cap f l k (k+1):=by
 have e0:(l.take k).filter (fun x=>!f x)=l.take k:=List.filter_eq_self.2 fun x hx=>by
  obtain⟨i,hi,rfl⟩:=List.getElem_of_mem hx;rw[AL] at hi;rw[List.getElem_take,hn i (by omega)];rfl
 have e:=(alu hk hf).trans e0;refine⟨A7.refl _ _,hb,by rw[e,AL];omega,fun t ht=>?_,fun t ht h=>hl t h,by omega,hk,hc⟩;simp only[e];rw[e,AL] at ht;rw[List.getElem_take];exact hl t (by omega)
theorem axm{w:World}{base:Nat}{g n cap:Nat}{l:M}(h:Bo w base (.slice (some ⟨g,0,none⟩) n cap) l)(t:Nat)(ht:t < l.length):OC w ⟨g,t*2,none⟩ l[t]:=by
 obtain⟨p,e,hp⟩:=(AO.CG h) t ht;cases e;rwa[add_plain] at hp
theorem axl{w:World}{base g cap:Nat}{cur:Array Value}{l:M}(hg:w.heap[g]?=some (.cells cur 75 (0,0)))(hs:cur.size=cap*2)(hb:base≤g)(hc:l.length≤cap)(hm:cap≤maxLen)(hl:∀ t,(h:t < l.length)→OC w ⟨g,t*2,none⟩ l[t]):Bo w base (.slice (some ⟨g,0,none⟩) l.length cap) l:=by
 refine⟨bf l,.inr ⟨g,cap,cur,rfl,hb,hg,hc,hm,hs,?_⟩⟩;apply List.ext_getElem?;intro j;by_cases hj:j < l.length*2
 ·obtain⟨i,r,hr,rfl⟩:∃ i r,r < 2∧j=i*2+r:=⟨j / 2,j % 2,by omega,by omega⟩;have hi:i < l.length:=by omega
  rw[oL l i hi r hr,List.getElem?_take,Ab (by omega),Dn];have hp:=hl i hi;have h0:=hp.key;have h1:=hp.val;rw[BA w g _ _ _ _ hg] at h0;have h1':w.cell? ⟨g,i*2+1,none⟩=some (.string (bs l[i].2)):=h1;rw[BA w g _ _ _ _ hg] at h1'
  match r,hr with
  |0,_=>simpa using h0
  |1,_=>simpa using h1'
 ·rw[List.getElem?_eq_none (by rw[AL];omega),List.getElem?_eq_none (by rw[bf];omega)]
theorem axb{w:World}{base g cap:Nat}{K:World→Prop}{v:Value}{f:T×T→Bool}{l:M}(h:Bo w base (.slice (some ⟨g,0,none⟩) l.length cap) l)(hf:VW K v f)(hK:∀ W,A7 (fun k=>k=g) w W→K W)(hlen:l.length≤1000000):
  Calls prog 68 #[.slice (some ⟨g,0,none⟩) l.length cap,v] w fun e w'=>
   e=.returned (.slice (some ⟨g,0,none⟩) (l.filter fun x=>!f x).length cap)∧Bo w' base (.slice (some ⟨g,0,none⟩) (l.filter fun x=>!f x).length cap) (l.filter fun x=>!f x)∧A7 (fun k=>k=g) w w':=by
 have Ah:=h;obtain⟨cur,QZ,O5,BH,QX,Dv⟩:∃ cur,base≤g∧w.heap[g]?=some (.cells cur 75 (0,0))∧l.length≤cap∧cap≤maxLen∧cur.size=cap*2:=by
  rcases h.2 with⟨e1,_⟩|⟨g',cap',cur,e1,h1,h2,h3,h4,h5,_⟩
  ·cases e1
  ·injection e1 with e2 _ e3
   injection e2 with e4
   injection e4 with e5
   subst e5;subst e3;exact⟨cur,h1,h2,h3,h4,h5⟩
 have hat:=AO.CG h;have HI:=Hi (acn cap hat hf (fun W hb=>hK W (A7.of_below hb)) (by omega));obtain⟨F,recv,Lt,rfl,KJ,LB⟩:=hf;rcases avk f l with⟨e1,e2⟩|⟨k0,hk0,e1,e2,e3⟩
 ·rw[e1] at HI;have HR:=Hi Ah;have HE:=Hi e2;clear h hK hat KJ LB e1 e2 Ah O5;go_enter func68,ntmps68;go_wp2_with fail;refine HI.mono ?_;rintro e w1⟨rfl,hb⟩;have HB:=Hi hb;clear hb;go_wp2_with fail;go_ret;refine⟨by rw[HE.out];rfl,by rw[HE.out];exact C9 HR HB,A7.of_below HB⟩
 ·rw[e1] at HI;have AR:=Hi (axa ⟨cur,O5,Dv⟩ (fun t ht=>axm Ah t ht) BH hk0 e2 e3);have HC:=Hi LB;have HK:=Hi hK;have HGB:=Hi QZ;have Rw:=Hi QX;clear h hK hat LB e1 e2 e3 Ah O5 Dv QZ QX;go_enter func68,ntmps68;go_wp2_with fail;refine HI.mono ?_;rintro e w1⟨rfl,hb⟩;have Gb:=Hi (AR.below hb);have BF:=Hi (show MZ w w1 g cap f l k0 (k0+1) from Gb.out);clear hb Gb;go_wp2_with fail
  go_loopw [5,6] (fun i j wr=>∃ a b:Nat,i=.int .i64 a∧j=.int .i64 b∧MZ w wr g cap f l a b) (fun _ j _=>l.length -(intOf j).toNat)
  case atStart=>exact⟨k0,k0+1,rfl,by go_num,BF⟩
  case round=>
   clear AR HI BF;obtain⟨i,j,rfl,rfl,AP⟩:=hrel;have qL:=AP.lt;have Ju:=AP.le;by_cases hlt:j < l.length
   ·have hx:=AP.back j (Ac _) hlt;have Rb:=hx.key;have EE:wr.cell? ⟨g,j*2+1,none⟩=some (.string (bs l[j].2)):=hx.val;have Hg:=fun W=>Hr prog 22 75 underlying22 2 (by kernel_rfl) ⟨g,0,none⟩ l.length cap j hlt W
    have auk:=fun W=>Hr prog 22 75 underlying22 2 (by kernel_rfl) ⟨g,0,none⟩ l.length cap i (by omega) W
    simp only[add_plain] at Hg auk;have BP:=Aw wr (.cells #[.string (bs l[j].1),.string (bs l[j].2)] 75);have QO:=Hi (AP.below BP);have Ev:=Hi (HC (wr.alloc (.cells #[.string (bs l[j].1),.string (bs l[j].2)] 75)) l[j] (HK _ QO.upd));have HY:=Hi (fun(W:World) (hb:Below (wr.alloc (.cells #[.string (bs l[j].1),.string (bs l[j].2)] 75)).heap.size (wr.alloc (.cells #[.string (bs l[j].1),.string (bs l[j].2)] 75)) W)=>(show f l[j]=true→MZ w W g cap f l i (j+1) from(QO.below hb).strike hlt));have HN:=Hi (fun(W:World) (hb:Below (wr.alloc (.cells #[.string (bs l[j].1),.string (bs l[j].2)] 75)).heap.size (wr.alloc (.cells #[.string (bs l[j].1),.string (bs l[j].2)] 75)) W)=>(show f l[j]=false→MZ w ((W.setCell ⟨g,i*2,none⟩ (.string (bs l[j].1))).setCell ⟨g,i*2+1,none⟩ (.string (bs l[j].2))) g cap f l (i+1) (j+1) from(QO.below hb).keep hlt));have Fa:=Hi (fun(W:World) (hb:Below (wr.alloc (.cells #[.string (bs l[j].1),.string (bs l[j].2)] 75)).heap.size (wr.alloc (.cells #[.string (bs l[j].1),.string (bs l[j].2)] 75)) W)=>(QO.below hb).cells);have Hu:=Hi (AJ wr (.cells #[.string (bs l[j].1),.string (bs l[j].2)] 75));clear AP hx BP;generalize l[j]=x at*;go_wp2_with fail;refine Ev.mono ?_;rintro e w2⟨rfl,A8⟩;have TW:=(A8.block _ (Ai Hu)).trans Hu.out;have Xq:w2.cell? ⟨wr.heap.size,0,none⟩=some (.string (bs x.1)):=cr TW;have P9:w2.cell? ⟨wr.heap.size,1,none⟩=some (.string (bs x.2)):=cr TW;obtain⟨bL,bM⟩:=Fa w2 A8;have aBO:=bM (i*2);have aBP:=bM (i*2+1);obtain⟨o0,Mv⟩:=MN.1 (bL (i*2) (by omega))
    obtain⟨o1,Dj⟩:=MN.1 (bL (i*2+1) (by omega));have TF:=Hi (HY w2 A8);have MW:=Hi (HN w2 A8);clear A8 TW bL bM HY HN Fa Ev;generalize f x=s at*;cases s with
    |true=>
     have QU:=Hi (TF rfl);clear TF MW;go_wp2_with fail;go_roundw
     case rel=>first
      |exact⟨i,j+1,rfl,by go_num,QU⟩
      |(repeat apply Exists.intro
        refine⟨?_,rfl⟩;exact⟨i,j+1,rfl,by go_num,QU⟩)
     case measure=>simp[intOf];omega
    |false=>
     have Ya:=Hi (MW rfl);clear TF MW;go_wp2_with fail;refine⟨?_,?measure⟩
     ·repeat apply Exists.intro
      refine⟨?rel,rfl⟩
      case rel=>exact⟨i+1,j+1,by go_num,by go_num,Ya⟩
     case measure=>simp[intOf];omega
   ·obtain rfl:j=l.length:=(by omega);obtain⟨bL,bM⟩:=AP.cells;have ai7:=fun ty=>ayr wr ty g (i*2) (l.length -i) (cap -i) (by omega) (fun t ht=>bL (i*2+t) (by omega)) (fun t _=>bM (i*2+t))
    have NY:∀ W,(Instr.slice 22 (.slice (some ⟨g,0,none⟩) l.length cap) (some (.int .i64 (i:Int))) none none).run prog W=.ok (.slice (some ⟨g,i*2,none⟩) (l.length -i) (cap -i)) W:=fun W=>by
     have:=dM W (some ⟨g,0,none⟩) l.length cap i (by omega);unfold Ii at this;rw[Aa (by omega)] at this;simp only[Ej,add_plain] at this;exact this
    have BO:=fun W=>aco W (some ⟨g,0,none⟩) l.length cap i (by omega) BH
    have jy:=AP.kept;rw[CY] at jy;have HS:=Hi AP;have Jl:=Hi jy;clear AP jy bL bM;go_wp2_with fail;go_ret;obtain⟨h1,h2,h3,h4,h5⟩:=adn g (List.replicate ((l.length -i)*2) (Value.string ByteArray.empty)) (i*2) wr;have hu:A7 (fun k=>k=g) wr (wr.setCells g (i*2) (List.replicate ((l.length -i)*2) (Value.string ByteArray.empty))):=⟨h2,h3,h4,Nat.le_of_eq h1.symm,fun k _ hk=>h5 k hk⟩;obtain⟨aqS,g2,s2⟩:=HS.blk;have hlen:(l.filter fun x=>!f x).length≤cap:=(by rw[←Jl.out];omega);refine⟨by rw[←Jl.out];rfl,?_,HS.upd.trans hu (fun k hk=>.inl hk)⟩;obtain⟨aBh,g3,s3⟩:=amD g (List.replicate ((l.length -i)*2) (Value.string ByteArray.empty)) (i*2) wr aqS g2;refine axl g3 (by rw[s3];exact s2) HGB hlen Rw (fun t ht=>?_);have hf:=HS.front;rw[CY] at hf;have hp:=hf t ht;have hti:t < i:=(by rw[Jl.out];exact ht);exact⟨(World.cell?_setCells_out g _ (i*2) wr ⟨g,t*2,none⟩ (fun _ _=>.inl (by show t*2 < i*2;omega))).trans hp.key,(World.cell?_setCells_out g _ (i*2) wr ⟨g,t*2+1,none⟩ (fun _ _=>.inl (by show t*2+1 < i*2;omega))).trans hp.val⟩
theorem acm{w:World}{base:Nat}{s:Value}{K:World→Prop}{v:Value}{f:T×T→Bool}{l:M}(h:Bo w base s l)(hf:VW K v f)(hK:∀ W,A7 (fun k=>s.ownBlock=some k) w W→K W)(hlen:l.length≤1000000):
  Calls prog 68 #[s,v] w fun e w'=>∃ s',e=.returned s'∧Bo w' base s' (l.filter fun x=>!f x)∧A7 (fun k=>s.ownBlock=some k) w w'∧s'.ownBlock=s.ownBlock:=by
 rcases h.2 with⟨e1,e2⟩|⟨g,cap,cur,e1,_⟩
 ·subst e1;obtain rfl:l=[]:=Ld.1 e2;have HI:=Hi (acn (a:=none) (l:=[]) 0 (AO.nil w none) hf (fun W hb=>hK W (A7.of_below hb)) (by simp));have HH:=Hi h;clear hK h;go_enter func68,ntmps68;go_wp2_with fail;refine HI.mono ?_;rintro e w1⟨rfl,hb⟩;have HB:=Hi hb;clear hb;have hx:Pb f []= -1:=rfl;rw[hx];go_wp2_with fail;go_ret;exact⟨_,rfl,C9 HH HB,A7.of_below HB,rfl⟩
 ·subst e1;have cz:∀ k,(Value.slice (some ⟨g,0,none⟩) l.length cap).ownBlock=some k↔k=g:=fun k=>by simp[Value.ownBlock];exact eq_comm
  refine(axb h hf (fun W hu=>hK W (hu.mono fun k hk=>(cz k).2 hk)) hlen).mono ?_;rintro e w'⟨rfl,h5,h6⟩;exact⟨_,rfl,h5,h6.mono fun k hk=>(cz k).2 hk,rfl⟩
end Prs
end Go.Proofs.YtmbbhdebddbhoaaGreat
