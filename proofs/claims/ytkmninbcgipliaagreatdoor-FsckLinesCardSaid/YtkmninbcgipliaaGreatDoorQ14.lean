/- MemE RMem TxtW DepW DepR DepO AllD DepG -/
import Derived.Test.YtkmninbcgipliaaGreatDoorQ13
set_option maxHeartbeats 4000000
set_option maxRecDepth 100000
set_option linter.all false
namespace Go.Proofs.YtkmninbcgipliaaGreatDoor
open Tryz
open Go.RowKit
open Go.Maps
namespace Mem
open Aq Af Ap Bu Kp BM Hex BD Al
def Vp(w:World)(base b:Nat)(l:M):Prop:=∃ v,w.heap[b]?=some (.cells #[v] 179)∧BK w base v l∧base≤b
theorem Vp.upd{F:Nat→Prop}{w w':World}{base b:Nat}{l:M}(h:Vp w base b l)(hu:A7 F w w')(h1:∀ k,F k→¬ Bf w k 179)(h2:∀ k,F k→¬ Bf w k 51):Vp w' base b l:=by
 obtain⟨v,e,hr,hb⟩:=h;exact⟨v,(hu.block b (Ao e) (fun f=>h1 b f ⟨_,_,e⟩)).trans e,BH hr hu (fun k hk f=>h2 k f (CB hr hk)),hb⟩
theorem Vp.below{w w':World}{base b:Nat}{l:M}(h:Vp w base b l)(hb:Bw w w'):Vp w' base b l:=by
 obtain⟨v,e,hr,hl⟩:=h;exact⟨v,(hb.block b (Ao e)).trans e,Ch hr hb,hl⟩
structure F4(w:World)(base m:Nat)(L:List (T×M))(f:T→Nat):Prop where
 map:∃ kv:List (T×Value),kv.Perm (L.map fun x=>(x.1,Value.pointer (some ⟨f x.1,0,none⟩)))∧FU prog 9 w m kv
 nodup:(L.map (·.1)).Nodup
 X3:∀ x∈L,Vp w base (f x.1) x.2
 inj:∀ x∈L,∀ y∈L,f x.1=f y.1→x.1=y.1
 low:base≤m
theorem arq:(prog.info? 176).map (fun i=>(i.zero,i.size))=some (some (.pointer none),1):=by kernel_rfl
theorem zh(w:World):(zeroValue 176).run prog w=.ok (.pointer none) w:=(zero_of_info arq).1 w
section
variable {w w':World}{base m:Nat}{L:List (T×M)}{f:T→Nat}
theorem F4.below(h:F4 w base m L f)(hb:Bw w w'):F4 w' base m L f:=by
 obtain⟨⟨kv,h1,h2⟩,h3,h4,h5,h6⟩:=h;exact⟨⟨kv,h1,h2.kept (hb.block m h2.lt)⟩,h3,fun x hx=>(h4 x hx).below hb,h5,h6⟩
theorem F4.Wi(h:F4 w base m L f):((L.map fun x=>(x.1,Value.pointer (some ⟨f x.1,0,none⟩))).map (·.1)).Nodup:=by
 rw[Ko];exact h.nodup
theorem F4.keys{kv:List (T×Value)}(h:kv.Perm (L.map fun x=>(x.1,Value.pointer (some ⟨f x.1,0,none⟩)))):(kv.map (·.1)).Perm (L.map (·.1)):=by
 have:=h.map (·.1);rwa[Ko] at this
theorem F4.zH(h:F4 w base m L f){x:T×M}(hx:x∈L)(hn:x.1.length≤maxLen):
  (Instr.lookup 175 (.map (some m)) (.string (bs x.1)) false).run prog w=.ok (.pointer (some ⟨f x.1,0,none⟩)) w:=by
 obtain⟨kv,h1,h2⟩:=h.map;rw[h2.lookup underlying9 underlying175 (zh w) x.1 hn,ZY (h1.map (·.1) |>.nodup_iff.2 h.Wi) h1,(Y7 h.Wi).2 (BA.2 ⟨x,hx,rfl⟩)];rfl
end
def aV(w:World)(L:List (T×M))(e:Ending)(w':World):Prop:=
 if Ps L=true then ∃ q c,e=.returned (.tuple #[.slice q (KL L).length c,.int .i64 0])∧w'.ownsRow w.heap.size 57 3 (.slice q (KL L).length c) (KL L).length (Li (KL L))∧Bw w w'
 else e=.returned (.tuple #[.slice none 0 0,.int .i64 5])∧Bw w w'
def xS(w:World)(nv:Value)(N:List T)(ch:T→Am)(fit:T→Bool)(s i:Value)(wr:World):Prop:=
 ∃ (k:Nat) (q:Option Addr) (c:Nat),k≤N.length∧i=.int .i64 (k:Int)∧s=.slice q ((N.take k).map ch).length c∧wr.ownsRow w.heap.size 57 3 (.slice q ((N.take k).map ch).length c) ((N.take k).map ch).length (Li ((N.take k).map ch))∧Bw w wr∧(N.take k).all fit=true∧Ap.Bq wr (w.heap.size+1) nv N
theorem lQ:∀ {L:List T} {a:T},BB L=some a→a.length+2=rowLen L
 |[],a,h=>by simp only[BB,Ci] at h;subst h;rfl
 |x :: L,a,h=>by
  simp only[BB] at h;cases h1:Em x with
  |none=>rw[h1] at h;cases h
  |some u=>
   cases h2:BB L with
   |none=>rw[h1,h2] at h;cases h
   |some c=>
    rw[h1,h2] at h;simp only[CF,EP,Ci] at h;subst h;have ih:=lQ h2;unfold Em at h1;split at h1
    ·injection h1 with h1
     subst h1;unfold rowLen at ih ⊢;simp only[Az,A9.BV,Ce,Eo];omega
    ·cases h1
theorem tZ(l:M)(h:(Ef l).2=0)(hs:rowLen (flat l)≤1000000000):(Ef l).1.length≤1000000000:=by
 unfold Ef at*;cases hp:FI l with
 |none=>simp
 |some s=>
  unfold FI at hp;split at hp
  ·cases ht:BB (flat l) with
   |none=>rw[ht] at hp;cases hp
   |some a=>
    rw[ht] at hp;simp only[EP,Ci] at hp;have:=lQ ht;subst hp;simp only[Az,A9.BV];omega
  ·cases hp
theorem WZ{l:M}:(BS l).isSome=true↔(Ef l).2=0∧(Ef l).1.length+4≤65535:=by
 unfold BS Ef;cases FI l with
 |none=>simp
 |some s=>
  by_cases h:s.length+4≤65535
  ·simp only[CF];rw[Ac h];exact⟨fun _=>⟨trivial,h⟩,fun _=>rfl⟩
  ·simp only[CF];rw[Aa h];exact⟨fun e=>by simp at e,fun e=>absurd e.2 h⟩
theorem oD{l:M}(h:(BS l).isSome=true):(BS l).getD []=A9.Fv (Ef l).1:=by
 unfold BS Ef at*;cases hp:FI l with
 |none=>rw[hp] at h;simp at h
 |some s=>
  rw[hp] at h;simp only[CF] at h ⊢;by_cases hs:s.length+4≤65535
  ·rw[Ac hs];rfl
  ·rw[Aa hs] at h;simp at h
theorem axk{W W2:World}{base b2:Nat}{nv ov:Value}{N:List T}{n:Nat}{cs:List Value}(h:Ap.Bq W base nv N)(ho:W.ownsRow b2 57 3 ov n cs)(hg:W.grownBy W2 ov.ownBlock):Ap.Bq W2 base nv N:=
 BH h (A7.of_grownBy (F:=fun k=>ov.ownBlock=some k) hg (fun k e=>e)) (fun g Qw f=>by
  obtain⟨c1,f1,e1⟩:=CB h Qw;obtain⟨c2,f2,e2⟩:=CB ho f;rw[e1] at e2;injection e2 with e2
  injection e2 with _ e2
  exact absurd e2 (by decide))
theorem sN{w wr W2 w1:World}{nv:Value}{N:List T}{ch:T→Am}{fit:T→Bool}{k:Nat}{cl:List Am}{ov:Value}{q':Option Addr}{cap':Nat}(c:Am)(hk:k < N.length)(hb:Bw w wr)(Ag:wr.ownsRow w.heap.size 57 3 ov cl.length (Li cl))(hW:Bw wr W2)(hg:W2.grownBy w1 ov.ownBlock)
  (ho:w1.ownsRow w.heap.size 57 3 (.slice q' (cl.length+1) cap') (cl.length+1) (Li cl++[.string (bs c.name),.string (bs c.data),.bool c.gone]))(Uw:(N.take (k+1)).map ch=cl++[c])(hall:(N.take (k+1)).all fit=true)(hn:Ap.Bq wr (w.heap.size+1) nv N):
  xS w nv N ch fit (.slice q' (cl.length+1) cap') (.int .i64 ((k:Int)+1)) w1:=by
 have e:cl.length+1=((N.take (k+1)).map ch).length:=by rw[Uw,Az];rfl
 refine⟨k+1,q',cap',by omega,by go_num,by rw[e],?_,?_,hall,?_⟩
 ·rw[←e,Uw,ou];exact ho
 ·exact(bT hb hW).grown hg (Ay hb.size hW.size) (fun j hj=>Ec Ag hj)
 ·exact axk (Ch hn hW) (Ch Ag hW) hg
theorem akG{w:World}{base m:Nat}{L:List (T×M)}{f:T→Nat}(h:F4 w base m L f)(hs:∀ x∈L,CR x.2∧x.2.length≤1000000∧rowLen (flat x.2)≤1000000000)(hn:∀ x∈L,x.1.length≤1000)(hl:L.length≤100000):
  Calls prog 98 #[.map (some m)] w fun e w'=>aV w L e w':=by
 obtain⟨i0,Bg,AX,AY,Ba⟩:=DI ow;have HK:=Hi (show Calls prog 180 #[.map (some m)] w fun e w'=>e=.returned (.func (.func 236) #[] #[.pointer (some ⟨w.heap.size,0,none⟩)])∧w'=w.alloc (.cells #[.map (some m)] 175) from awQ (some m) w);obtain⟨kv,MR,XB⟩:=h.map;have DX:kv.length=L.length:=by rw[MR.length_eq,Ca]
 have YI:=Hi (awW XB (by omega));have Zh:(kv.map (·.1)).mergeSort (fun x y=>decide (x≤y))=Da L:=mergeSort_of_perm (F4.keys MR);rw[DX,Zh] at YI;have HH:=Hi h;have HS:=Hi hs;have HN:=Hi hn;have EB:(Da L).length=L.length:=tq L
 have wO:=Hi (fun t (ht:t∈Da L)=>show ∃ x∈L,x.1=t∧rowOf L t=x.2 from by
  obtain⟨x,hx,rfl⟩:=BA.1 (kV.1 ht);exact⟨x,hx,rfl,lq h.nodup hx⟩)
 clear h hs hn MR XB DX Zh
 go_in
 go_wp2_with fail;refine HK.mono ?_;rintro e w1⟨rfl,Jr⟩;subst Jr;go_wp2_with fail;refine YI.mono ?_;rintro e w2⟨v,rfl,Ag,Ad⟩;have MW:Ap.Bq w2 (w.heap.size+1) v (Da L):=by
  unfold Ap.Bq;rw[LG,EB];exact Ag
 obtain⟨q,c,rfl⟩:=Bp MW;have BU:=Hi MW;have Ak:=Hi Ad;clear Ag MW Ad HK YI;have hnI:((Da L).length:Int)=(L.length:Int):=by rw[EB]
 go_wp2
 go_loopw [2,13] (fun s i wr=>xS w (.slice q (Da L).length c) (Da L) (fun t=>M8 t (rowOf L t)) (fun t=>MN (rowOf L t)) s i wr) (fun _ i _=>(Da L).length -(intOf i).toNat)
 case atStart=>exact⟨0,none,0,AZ _,rfl,rfl,by rw[I8,Kq,oo];exact E5 _ _ _ _,Ak,rfl,BU⟩
 case round=>
  obtain⟨k,cq,cc,hk,rfl,rfl,Ag,hb,hall,G8⟩:=hrel;have Oa:=Hi G8;have Co:=Hi Ag;have HB:=Hi hb;have Gv:=Hi hall;clear Ag hall G8 Ak BU;by_cases hlt:k < (Da L).length
  ·obtain⟨x,hx,ZG,FH⟩:=wO _ (Dc hlt);obtain⟨a,Cx,c0⟩:=(I6 (c:=c) (Oa.out)).index c k hlt;simp only[EB] at Cx;have Tf:k < L.length:=by omega
   have MC:=Hi (show(MN x.2=true→((Da L).take (k+1)).all (fun t=>MN (rowOf L t))=true)∧((Da L).take (k+1)).map (fun t=>M8 t (rowOf L t))=((Da L).take k).map (fun t=>M8 t (rowOf L t))++[M8 x.1 x.2] from by
    rw[CQ hlt,D6,List.all_append,Gv.out];constructor
    ·intro e;simp[FH,e]
    ·simp[FH,ZG])
   have O7:=Hi (show MN x.2=false→¬ Ps L=true from fun e h=>by
    have:=Mr.1 h _ (Dc hlt);rw[FH,e] at this;cases this)
   obtain⟨cl,BJ⟩:∃ cl,((Da L).take k).map (fun t=>M8 t (rowOf L t))=cl:=⟨_,rfl⟩;have jE:cl.length=k:=(by rw[←BJ,Ca,Be];omega);have EL:=Hi jE;rw[BJ] at Co MC ⊢;have NQ:=((HH.below HB).zH hx (by have:=HN x hx;unfold maxLen;omega));obtain⟨v,Jj,Ag,Gh⟩:=(HH.below HB).X3 x hx;obtain⟨q2,c2,rfl,Fp,Gz⟩:=Fz Ag;have c1:wr.cell? ⟨f x.1,0,none⟩=some (.slice q2 x.2.length c2):=cr Jj;obtain⟨UC,CZ,VQ⟩:=HS x hx;rw[←ZG] at c0;clear BJ hb FH Gh ZG;have au4:cl.length≤100000:=(by omega);clear jE;have WJ:=Hi (Bj.D9 Ag);obtain⟨t,l⟩:=x;simp only at*;generalize f t=ft at*;by_cases hz:l=[]
   ·have XU:((l.length:Int) == 0)=true:=(by rw[hz];rfl);have LW:=Hi (show M8 t l=⟨t,[],true⟩ from Ac hz);have TR:=Hi (MC.1 (by rw[hz];rfl));go_wp2_with (at_builtin;refine wpList_append_own_at _ rfl _ _ 32 rfl w.heap.size 57 i0 _ 3 40 underlying32 Bg AX AY Ba rfl (by decide) _ cl.length _ rfl (Co.alloc _) ⟨wr.heap.size,0,none⟩ 1 1 [.string (bs t),.string { data:=#[] },.bool true] rfl rfl (by intro j u hj;rw[add_plain,E8];exact(Dx▸hj)) (by simp[Value.oneCell']) (by unfold maxLen;omega) (by omega) (by have:=HB.size;simp;omega) ?_;intro v' w1 Ck AJ _ hat;obtain⟨g',cap',rfl⟩:=ownsRow_succ Ck;have HO:=Hi Ck;have HG:=Hi AJ;clear Ck AJ hat);have Cz:=Hi (sN ⟨t,[],true⟩ hlt HB Co (AV wr _) HG HO (by rw[←LW.out];exact MC.2) TR Oa);go_roundw
    case rel=>exact Cz.out
    case measure=>
     show(Da L).length -((k:Int)+1).toNat < (Da L).length -((k:Int)).toNat
     omega
   ·have XU:((l.length:Int) == 0)=false:=EH.2 (fun e=>hz (JW.1 (by omega)));have G7:=Hi (alp (cap:=c2) WJ UC CZ VQ);have gJ:=Hi (show MN l=(BS l).isSome from by unfold MN;simp[hz]);have LW:=Hi (show M8 t l=⟨t,(BS l).getD [],false⟩ from Aa hz);by_cases C9:(BS l).isSome=true
    ·have TR:=Hi (MC.1 (by rw[gJ.out];exact C9));obtain⟨he,hlen⟩:=WZ.1 C9;have TQ:=Hi (oD C9);rw[he] at G7;generalize (Ef l).1=s at*;have Tc:decide (65535 < (s.length:Int)+4)=false:=decide_eq_false (by omega);have Io:IntKind.i64.wrap ((s.length:Int)+4)=(s.length:Int)+4:=Eh _ (by omega);have YH:=Hi (fun W=>eZ s W (by omega));clear he C9 hlen;go_wp2_with fail;refine G7.mono ?_;rintro e w3⟨rfl,Aw⟩;have AA:=Hi Aw;clear Aw;go_wp2_with fail;refine(YH _).mono ?_;rintro e w4⟨rfl,AB⟩;have AU:=bH AA AB;have WM:=Hi (Ch Co AU);have abg:=AU.size;have rW:=HB.size;clear AB;go_wp2_with (at_builtin;refine wpList_append_own_at _ rfl _ _ 32 rfl w.heap.size 57 i0 _ 3 40 underlying32 Bg AX AY Ba rfl (by decide) _ cl.length _ rfl (WM.alloc _) ⟨w4.heap.size,0,none⟩ 1 1 [.string (bs t),.string (bs (A9.Fv s)),.bool false] rfl rfl (by intro j u hj;rw[add_plain,E8];exact(Dx▸hj)) (by simp[Value.oneCell']) (by unfold maxLen;omega) (by omega) (by simp;omega) ?_;intro v' w1 Ck AJ _ hat;obtain⟨g',cap',rfl⟩:=ownsRow_succ Ck;have HO:=Hi Ck;have HG:=Hi AJ;clear Ck AJ hat);have Cz:=Hi (sN ⟨t,A9.Fv s,false⟩ hlt HB Co (AU.trans ((AV w4 _).mono AU.size)) HG HO (by rw[←TQ.out,←LW.out];exact MC.2) TR Oa);go_roundw
     case rel=>exact Cz.out
     case measure=>
      show(Da L).length -((k:Int)+1).toNat < (Da L).length -((k:Int)).toNat
      omega
    ·have DJ:=Hi (O7 (by rw[gJ.out];simpa using C9));by_cases he:(Ef l).2=0
     ·have hlen:¬ (Ef l).1.length+4≤65535:=fun h=>C9 (WZ.2 ⟨he,h⟩)
      rw[he] at G7;have OE:=tZ l he VQ;generalize (Ef l).1=s at*;have Tc:65535 < (s.length:Int)+4:=(by omega);have Io:IntKind.i64.wrap ((s.length:Int)+4)=(s.length:Int)+4:=Eh _ (by omega);clear he C9;go_wp2_with fail;refine G7.mono ?_;rintro e w3⟨rfl,Aw⟩;have AA:=bH HB Aw;clear Aw;go_wp2;go_ret2;unfold aV;rw[Aa DJ.out];exact⟨rfl,AA⟩
     ·have Bb:((Ef l).2 == 0)=false:=EH.2 he;generalize Ef l=V at*;clear C9;go_wp2_with fail;refine G7.mono ?_;rintro e w3⟨rfl,Aw⟩;have AA:=bH HB Aw;clear Aw;go_wp2;go_ret2;unfold aV;rw[Aa DJ.out];exact⟨rfl,AA⟩
  ·obtain rfl:k=(Da L).length:=(by omega);have Jk:Ps L=true:=by
    have:=Gv.out;rw[I7 (Ae _)] at this;exact this
   have hE:=Co.out;rw[I7 (Ae _)] at hE;have HE:=Hi (show wr.ownsRow w.heap.size 57 3 (.slice cq (KL L).length cc) (KL L).length (Li (KL L)) from hE);have BJ:(((Da L).take (Da L).length).map fun t=>M8 t (rowOf L t)).length=(KL L).length:=(by rw[I7 (Ae _)];rfl);rw[BJ];clear hE hb BJ;go_wp2;go_ret2;unfold aV;rw[Ac Jk];exact⟨cq,cc,rfl,HE,HB⟩
end Mem
namespace Hex
open Af Ap BD
theorem lH(s:ByteArray)(K:IntKind)(k:Nat)(h:k < s.size)(W:World):(Instr.index 9 (.string s) (.int K (k:Int))).run prog W=.ok (.int .u8 ((s[k]'h).toNat:Int)) W:=by
 have h0:(0:Int)≤(k:Int):=Int.natCast_nonneg k;have e:s[k]?=some (s[k]'h):=by rw[getElem?_pos s k h]
 simp only[Instr.index,GK underlying9,go_sem];simp[h0,e,go_sem]
theorem afM(k:Nat)(h:k < 16)(W:World):(Instr.index 9 (.string { data:=#[48,49,50,51,52,53,54,55,56,57,97,98,99,100,101,102] }) (.int .u8 (k:Int))).run prog W=.ok (.int .u8 ((FV k).toNat:Int)) W:=by
 have h1:=lH ({ data:=#[48,49,50,51,52,53,54,55,56,57,97,98,99,100,101,102] }:ByteArray) .u8 k h W;rw[yV k h] at h1;exact h1
theorem acv(s:T)(w:World)(hs:s.length≤1000000)(h0:0 < s.length):Calls prog 88 #[.string (bs s)] w fun e w'=>e=.returned (.string (bs (Er s)))∧Bw w w':=by
 obtain⟨i0,Bg,AX,AY,Ba⟩:=DI YS
 go_in
 go_wp2
 go_loopw [3,4] (fun o i wr=>∃ (t n:Nat),t≤s.length∧n=2*t∧i=.int .i64 (t:Int)∧wr.ownsRow w.heap.size 5 1 o n (Cc (Er (s.take t)))∧Bw w wr) (fun _ i _=>s.length -(intOf i).toNat)
 case atStart=>exact⟨0,0,AZ _,rfl,rfl,by rw[I8,show Er []=[] from rfl,Yd];exact E5 _ _ _ _,Ah _ _⟩
 case round=>
  obtain⟨t,n,ht,hn,rfl,hown,hb⟩:=hrel;obtain⟨oq,Ha,rfl⟩:=Bp hown;have HO:=Hi hown;have HB:=Hi hb;by_cases hlt:t < s.length
  ·have HT:=Hi (show Er (s.take (t+1))=Er (s.take t)++[FV (s[t].toNat / 16),FV (s[t].toNat % 16)] from by rw[CQ hlt,ai7];simp[Er]);have MS:=s[t].toNat_lt;have VB:s[t].toNat / 16 < 16:=(by omega);have zP:s[t].toNat % 16 < 16:=(by omega);have JH:n≤2000000:=(by omega);have Jm:∀ W,(Instr.index 9 (.string (bs s)) (.int .i64 (t:Int))).run prog W=.ok (.int .u8 (s[t].toNat:Int)) W:=fun W=>lH (bs s) .i64 t (by simpa using hlt) W
   generalize s[t]=x at*;have GX:IntKind.u8.wrap ((x.toNat:Int) / 16)=(x.toNat:Int) / 16:=(by rw[anZ];omega);have hm1:((x.toNat:Int)).tmod 16=(x.toNat:Int) % 16:=Int.tmod_eq_emod_of_nonneg (by omega);have Ee:∀ W,(Instr.index 9 (.string { data:=#[48,49,50,51,52,53,54,55,56,57,97,98,99,100,101,102] }) (.int .u8 ((x.toNat:Int) / 16))).run prog W=.ok (.int .u8 ((FV (x.toNat / 16)).toNat:Int)) W:=fun W=>afM _ VB W
   have Ea:∀ W,(Instr.index 9 (.string { data:=#[48,49,50,51,52,53,54,55,56,57,97,98,99,100,101,102] }) (.int .u8 ((x.toNat:Int) % 16))).run prog W=.ok (.int .u8 ((FV (x.toNat % 16)).toNat:Int)) W:=fun W=>afM _ zP W
   have HN:=Hi (Cr hn hlt);clear hown hb hn;go_wp2_with fail;clear hlt;refine aj ?_
   go_region_law
    ((refine step_append_lies _ (by rfl) _ _ _ (by rfl) w.heap.size 5 i0 _ 1 1 underlying54 Bg AX AY Ba (by rfl) (by omega) (.slice oq n Ha) n (Cc (Er (s.take t))) (by rfl) ((HO.alloc _).drew) ⟨wr.heap.size,0,none⟩ 2 2 [.int .u8 ((FV (x.toNat / 16)).toNat:Int),.int .u8 ((FV (x.toNat % 16)).toNat:Int)] (by rfl) (by rfl) (World.news_of_block (cs:=#[.int .u8 ((FV (x.toNat / 16)).toNat:Int),.int .u8 ((FV (x.toNat % 16)).toNat:Int)]) (t:=5) (fr:=(0,0)) (AP wr _)) (by intro u hu;simp at hu;rcases hu with rfl|rfl<;>rfl) (by omega) (by unfold maxLen;omega) (by omega) (by rw[show((wr.alloc _).drew).heap.size=wr.heap.size+1 from Ar _ _];have:=HB.size;omega) (wr.heap.size+1) (by simp) ?_;intro gg og w3 RG AJ hat aiL))
   all_goals
    have AA:=Hi (((HB.alloc HB.size (.cells #[.int .u8 ((FV (x.toNat / 16)).toNat:Int),.int .u8 ((FV (x.toNat % 16)).toNat:Int)] 5)).drew).grown AJ (by rw[show((wr.alloc (.cells #[.int .u8 ((FV (x.toNat / 16)).toNat:Int),.int .u8 ((FV (x.toNat % 16)).toNat:Int)] 5)).drew).heap.size=wr.heap.size+1 from Ar _ _];have:=HB.size;omega) (fun j hj=>lC HO hj));have Ob:=Hi RG;clear RG AJ hat;dsimp only[XZ];go_wp2;go_roundw
    case rel=>
     refine⟨t+1,n+2,by have:=HN.out;omega,by have:=HN.out;omega,by go_num,?_,AA⟩;rw[HT.out,Yc,show Cc [FV (x.toNat / 16),FV (x.toNat % 16)]=[.int .u8 ((FV (x.toNat / 16)).toNat:Int),.int .u8 ((FV (x.toNat % 16)).toNat:Int)] by rw[fD,fD,Yd]];exact Ob.out
    case measure=>have:=HN.2;first|(simp[intOf];done)|(simp[intOf];omega)
  ·obtain rfl:t=s.length:=(by omega);rw[Dq] at hown;obtain⟨gq,e1⟩:∃ gq,oq=some ⟨gq,0,none⟩:=by
    rcases hown.2 with⟨e0,e1⟩|⟨g,cap,cur,e0,hb,_⟩
    ·omega
    ·injection e0 with e0;exact⟨g,e0⟩
   subst e1;have QD:(Er s).length=n:=(by rw[Rx];omega);have PE:=Y3 prog wr 54 5 9 underlying54 underlying5 underlying9 gq 0 n Ha (Er s) QD (fun i hi=>by rw[GJ];exact yD QD hown i hi);clear hown hb QD hn;go_wp2;go_ret;exact⟨rfl,HB⟩
end Hex
namespace Mem
open Aq Af Ap Bu Kp BM Hex BD
theorem acz(k:T)(w:World)(hk:k.length≤1000000):Calls prog 99 #[.string (bs k)] w fun e w'=>e=.returned (.string (bs (Aj.nm k)))∧Bw w w':=by
 have hm:({ data:=#[109] }:ByteArray)=bs [109]:=rfl;have hcut:∀ W,(Instr.slice 9 (.string (bs (EO k))) none (some (.int .i64 8)) none).run prog W=.ok (.string (bs ((EO k).take 8))) W:=fun W=>O1 prog W 9 underlying9 (EO k) 8 (by rw[TG];omega)
 have Lp:((EO k).take 8).length=8:=by rw[Be,TG];rfl
 have HH:=Hi (fun(W:World)=>acv ((EO k).take 8) W (by rw[Lp];omega) (by rw[Lp];omega));have hhl:(Er ((EO k).take 8)).length≤16:=by rw[Rx,Lp];omega
 have HE:=Hi (show[109]++Er ((EO k).take 8)=Aj.nm k from rfl);generalize Er ((EO k).take 8)=hx at*;generalize (EO k).take 8=sk at*;clear Lp
 go_in
 go_wp2_with fail;refine(amq k (by omega) _).mono ?_;rintro e w1⟨rfl,Ai⟩;have HB1:=Hi Ai;clear Ai;go_wp2_with fail;refine(HH _).mono ?_;rintro e w2⟨rfl,Ad⟩;have Ak:=bH HB1 Ad;clear Ad;go_wp2;go_ret;exact⟨by rw[←HE.out];rfl,Ak⟩
theorem aym{w:World}{a:Option Addr}{cap:Nat}{l:M}(h:Bj w a l)(hs:CR l)(hl:l.length≤60000)(DC:rowLen (flat l)≤1000000000):
  Calls prog 101 #[.slice a l.length cap] w fun e w'=>e=.returned (.tuple #[.string (bs ((BS l).getD [])),.int .i64 (if(BS l).isSome=true then 0 else 5)])∧Bw w w':=by
 have G7:=Hi (amn (cap:=cap) h hs hl DC);by_cases C9:(BS l).isSome=true
 ·rw[Ac C9];obtain⟨he,hlen⟩:=WZ.1 C9;have TQ:=Hi (oD C9);rw[TQ.out];rw[he] at G7;generalize (Ef l).1=s at*;have Tc:decide (65535 < (s.length:Int)+4)=false:=decide_eq_false (by omega);have Io:IntKind.i64.wrap ((s.length:Int)+4)=(s.length:Int)+4:=Eh _ (by omega);have YH:=Hi (fun W=>uz s W (by omega));clear he C9 hlen h hs DC TQ
  go_in
  go_wp2_with fail;refine G7.mono ?_;rintro e w3⟨rfl,Aw⟩;have AA:=Hi Aw;clear Aw;go_wp2_with fail;refine(YH _).mono ?_;rintro e w4⟨rfl,AB⟩;have AU:=bH AA AB;clear AB;go_wp2;go_ret2;exact⟨rfl,AU⟩
 ·rw[Aa C9];have hn:(BS l).getD []=[]:=by
   cases hc:BS l with
   |none=>rfl
   |some d=>rw[hc] at C9;simp at C9
  rw[hn];by_cases he:(Ef l).2=0
  ·have hlen:¬ (Ef l).1.length+4≤65535:=fun h=>C9 (WZ.2 ⟨he,h⟩)
   rw[he] at G7;have OE:=tZ l he DC;generalize (Ef l).1=s at*;have Tc:65535 < (s.length:Int)+4:=(by omega);have Io:IntKind.i64.wrap ((s.length:Int)+4)=(s.length:Int)+4:=Eh _ (by omega);clear he C9 h hs DC hn
   go_in
   go_wp2_with fail;refine G7.mono ?_;rintro e w3⟨rfl,Aw⟩;have AA:=Hi Aw;clear Aw;go_wp2;go_ret2;exact⟨rfl,AA⟩
  ·have Bb:((Ef l).2 == 0)=false:=EH.2 he;generalize Ef l=V at*;clear C9 h hs DC hn
   go_in
   go_wp2_with fail;refine G7.mono ?_;rintro e w3⟨rfl,Aw⟩;have AA:=Hi Aw;clear Aw;go_wp2;go_ret2;exact⟨rfl,AA⟩
theorem Y2{w:World}{base cap k:Nat}{q:Option Addr}{A:M}(h:BK w base (.slice q A.length cap) A)(hk:k < A.length):
  ∃ p:Addr,(∀ W,(Instr.indexAt 30 (.slice q A.length cap) (.int .i64 (k:Int))).run prog W=.ok (.pointer (some p)) W)∧w.cell? p=some (.string (bs A[k].1))∧w.cell? ⟨p.block,p.off+1,none⟩=some (.string (bs A[k].2)):=by
 obtain⟨p,h1,h2,-⟩:=(Bj.D9 h).index cap k hk;exact⟨p,h1,h2.key,h2.val⟩
theorem NZ{W:World}{g:Nat}{a b:Value}{t:TypeId}(h:W.heap[g]?=some (.cells #[a,b] t)):W.cell? ⟨g,0,none⟩=some a∧W.cell? ⟨g,1,none⟩=some b:=⟨by rw[BF W g _ _ _ _ h];rfl,by rw[BF W g _ _ _ _ h];rfl⟩
section
variable {w w':World}
structure YQ(w W:World)(ov:Value)(m:Nat)(o:M)(c:Am)(gn:Bool):Prop where
 row:W.ownsRow (w.heap.size+1) 51 2 ov m (Dn o)
 AQ:Bw w W
 box:W.heap[w.heap.size]?=some (.cells #[.string (bs c.name),.string (bs c.data)] 51)
theorem YQ.drew{W:World}{ov:Value}{m:Nat}{o:M}{c:Am}{gn:Bool}(h:YQ w W ov m o c gn):YQ w W.drew ov m o c gn:=⟨h.row.drew,h.AQ.drew,h.box⟩
theorem YQ.add{W W2:World}{ov v2:Value}{m:Nat}{o:M}{c:Am}{gn:Bool}{ob:Obj}{a b:T}(h:YQ w W ov m o c gn)(hg:(W.alloc ob).grownBy W2 ov.ownBlock)(ho:W2.ownsRow (w.heap.size+1) 51 2 v2 (m+1) (Dn o++[.string (bs a),.string (bs b)])):YQ w W2 v2 (m+1) (o++[(a,b)]) c gn:=by
 have hlt:=Ao h.box;have BL:(W.alloc ob).heap.size=W.heap.size+1:=Ar _ _;refine⟨by rw[Uf];exact ho,(h.AQ.alloc h.AQ.size ob).grown hg (by omega) (fun j hj=>by have:=Ec h.row hj;omega),?_⟩;exact(hg.block w.heap.size (by omega) (row_ne_low h.row (Nat.lt_succ_self w.heap.size))).trans (((AV W ob).block _ hlt).trans h.box)
theorem azg{q:Option Addr}{cap:Nat}{A:M}(c:Am)(hcg:c.gone=false)(h:BK w 0 (.slice q A.length cap) A)(hu:Up A)(hl:A.length≤1000000):
  Calls prog 102 #[.slice q A.length cap,.agg #[.string (bs c.name),.string (bs c.data)],.bool false] w fun e w'=>∃ v,e=.returned v∧BK w' w.heap.size v (Am.on A c)∧Bw w w':=by
 obtain⟨i0,Bg,AX,AY,Ba⟩:=DI RO;have HR:=Hi h;have HE:=Hi (alB (c:=c) hu);have EK:=Hi (AV w (.cells #[.string (bs c.name),.string (bs c.data)] 51));have Wy:=Hi (AP w (.cells #[.string (bs c.name),.string (bs c.data)] 51));obtain⟨gn,Zf⟩:∃ g:Bool,g=false:=⟨_,rfl⟩;rw[hcg,←Zf] at HE;rw[←Zf];have gN:=Hi Zf;clear h hu Zf
 go_in
 go_wp2
 go_loopw [7,8,9] (fun ov dv i wr=>∃ (k m:Nat) (o:M) (d:Bool),k≤A.length∧o.length=m∧m≤2*k∧i=.int .i64 (k:Int)∧dv=.bool d∧o++FB c d (A.drop k)=FB c gn A∧YQ w wr ov m o c gn)
  (fun _ _ i _=>A.length -(intOf i).toNat)
 case atStart=>exact⟨0,0,[],gn,AZ _,rfl,AZ _,rfl,rfl,by rw[List.drop_zero];rfl,⟨by rw[Rp];exact E5 _ _ _ _,EK,Wy⟩⟩
 case round=>
  obtain⟨k,m,o,d,hk,jX,Kb,rfl,rfl,Gp,Bl⟩:=hrel;obtain⟨oq,Ha,rfl⟩:=Bp Bl.row;have Ie:=Hi Bl;have MF:=Hi jX;clear EK Wy jX;by_cases hlt:k < A.length
  ·obtain⟨p,Jm,Lt,EC⟩:=(Y2 (BH HR (ub Bl.AQ) (fun _ _ f=>f)) hlt)
   have HP:=Hi (fun(W:World) (hW:Bw w W)=>(show W.cell? p=some (.string (bs A[k].1))∧W.cell? ⟨p.block,p.off+1,none⟩=some (.string (bs A[k].2)) from by
    obtain⟨p',qQ,aaS,aaT⟩:=(Y2 (BH HR (ub hW) (fun _ _ f=>f)) hlt);have e:=Jm W;rw[qQ W] at e;injection e with e
    injection e with e
    injection e with e
    subst e;exact⟨aaS,aaT⟩))
   obtain⟨b0,b1⟩:=NZ Bl.box;have hd:=QY hlt;rw[hd,alz] at Gp;obtain⟨x1,Ee⟩:=ex (A[k].1);obtain⟨x2,Ea⟩:=ex (A[k].2);rw[show A[k]=(x1,x2) from Prod.ext Ee Ea] at Gp;rw[Ee] at Lt HP;rw[Ea] at EC HP;have IV:=Hi Gp;clear hd Ee Ea Gp Bl;by_cases h1:x1 < c.name
   ·
    cases d with
    |false=>
     have Ct:Op.bytesLess x1 c.name=true:=(by rw[Go.Proofs.bytesLess_eq];simpa using h1);have hne:(x1 == c.name)=false:=(by simpa using KV h1);have HN:=Hi (show(o++[(x1,x2)])++FB c false (A.drop (k+1))=FB c gn A by rw[←IV.out];simp[h1,KV h1]);clear h1;go_wp2;go_region;have BQ:=Hi Ie.drew;clear b0 b1 Lt EC;generalize wr.drew=W1 at BQ ⊢;obtain⟨b0,b1⟩:=NZ BQ.box;obtain⟨p0,p1⟩:=HP _ BQ.AQ;go_wp2;go_region;have BO:=Hi BQ.drew;clear b0 b1 p0 p1;generalize W1.drew=W2 at BO ⊢;obtain⟨b0,b1⟩:=NZ BO.box;obtain⟨p0,p1⟩:=HP _ BO.AQ;go_wp2_with (at_builtin;refine wpList_append_own_at _ rfl _ _ 30 rfl (w.heap.size+1) 51 i0 _ 2 32 underlying30 Bg AX AY Ba rfl (by decide) (.slice oq m Ha) m _ rfl (BO.row.alloc _) ⟨W2.heap.size,0,none⟩ 1 1 [.string (bs x1),.string (bs x2)] rfl rfl (by intro j u hj;rw[add_plain,E8];exact(Dx▸hj)) (by simp[Value.oneCell']) (by unfold maxLen;omega) (by omega) (by rw[Ar];have:=Ao BO.box;omega) ?_;intro v2 w2 Dj El _ _;obtain⟨g2,cap2,rfl⟩:=ownsRow_succ Dj;have GM:=Hi (BO.add El Dj);clear Dj El);go_roundw
     case rel=>exact⟨k+1,m+1,o++[(x1,x2)],false,by omega,by simp[MF.out],by omega,by go_num,rfl,HN,GM⟩
     case measure=>simp[intOf];omega
    |true=>
     have Ct:Op.bytesLess x1 c.name=true:=(by rw[Go.Proofs.bytesLess_eq];simpa using h1);have hne:(x1 == c.name)=false:=(by simpa using KV h1);have HN:=Hi (show(o++[(x1,x2)])++FB c true (A.drop (k+1))=FB c gn A by rw[←IV.out];simp[h1,KV h1]);clear h1;go_wp2;go_region;have BQ:=Hi Ie.drew;clear b0 b1 Lt EC;generalize wr.drew=W1 at BQ ⊢;obtain⟨b0,b1⟩:=NZ BQ.box;obtain⟨p0,p1⟩:=HP _ BQ.AQ;go_wp2;go_region;have BO:=Hi BQ.drew;clear b0 b1 p0 p1;generalize W1.drew=W2 at BO ⊢;obtain⟨b0,b1⟩:=NZ BO.box;obtain⟨p0,p1⟩:=HP _ BO.AQ;go_wp2_with (at_builtin;refine wpList_append_own_at _ rfl _ _ 30 rfl (w.heap.size+1) 51 i0 _ 2 32 underlying30 Bg AX AY Ba rfl (by decide) (.slice oq m Ha) m _ rfl (BO.row.alloc _) ⟨W2.heap.size,0,none⟩ 1 1 [.string (bs x1),.string (bs x2)] rfl rfl (by intro j u hj;rw[add_plain,E8];exact(Dx▸hj)) (by simp[Value.oneCell']) (by unfold maxLen;omega) (by omega) (by rw[Ar];have:=Ao BO.box;omega) ?_;intro v2 w2 Dj El _ _;obtain⟨g2,cap2,rfl⟩:=ownsRow_succ Dj;have GM:=Hi (BO.add El Dj);clear Dj El);go_roundw
     case rel=>exact⟨k+1,m+1,o++[(x1,x2)],true,by omega,by simp[MF.out],by omega,by go_num,rfl,HN,GM⟩
     case measure=>simp[intOf];omega
   ·by_cases h2:x1=c.name
    ·
     cases d with
     |false=>
      have Ct:Op.bytesLess x1 c.name=false:=(by rw[Go.Proofs.bytesLess_eq];simpa using h1);have hne:(x1 == c.name)=true:=(by simpa using h2);have HN:=Hi (show(o++[(c.name,c.data)])++FB c true (A.drop (k+1))=FB c gn A by rw[←IV.out];simp[h2,RL]);clear h1 h2;go_wp2;go_region;have BQ:=Hi Ie.drew;clear b0 b1 Lt EC;generalize wr.drew=W1 at BQ ⊢;obtain⟨b0,b1⟩:=NZ BQ.box;obtain⟨p0,p1⟩:=HP _ BQ.AQ;go_wp2_with (at_builtin;refine wpList_append_own_at _ rfl _ _ 30 rfl (w.heap.size+1) 51 i0 _ 2 32 underlying30 Bg AX AY Ba rfl (by decide) (.slice oq m Ha) m _ rfl (BQ.row.alloc _) ⟨W1.heap.size,0,none⟩ 1 1 [.string (bs c.name),.string (bs c.data)] rfl rfl (by intro j u hj;rw[add_plain,E8];exact(Dx▸hj)) (by simp[Value.oneCell']) (by unfold maxLen;omega) (by omega) (by rw[Ar];have:=Ao BQ.box;omega) ?_;intro v1 w1 DL MQ _ _;obtain⟨g1,Vu,rfl⟩:=ownsRow_succ DL;have Jg:=Hi (BQ.add MQ DL);clear DL MQ);have BO:=Hi Jg.drew;obtain⟨e0,e1⟩:=NZ Jg.box;obtain⟨r0,r1⟩:=HP _ Jg.AQ;go_wp2;go_region;clear b0 b1 p0 p1 e0 e1 r0 r1;generalize w1.drew=W2 at BO ⊢;obtain⟨b0,b1⟩:=NZ BO.box;obtain⟨p0,p1⟩:=HP _ BO.AQ;go_wp2;go_roundw
      case rel=>exact⟨k+1,m+1,o++[(c.name,c.data)],true,by omega,by simp[MF.out],by omega,by go_num,rfl,HN,BO⟩
      case measure=>simp[intOf];omega
     |true=>
      have Ct:Op.bytesLess x1 c.name=false:=(by rw[Go.Proofs.bytesLess_eq];simpa using h1);have hne:(x1 == c.name)=true:=(by simpa using h2);have HN:=Hi (show(o)++FB c true (A.drop (k+1))=FB c gn A by rw[←IV.out];simp[h2]);clear h1 h2;go_wp2;go_region;have BQ:=Hi Ie.drew;clear b0 b1 Lt EC;generalize wr.drew=W1 at BQ ⊢;obtain⟨b0,b1⟩:=NZ BQ.box;obtain⟨p0,p1⟩:=HP _ BQ.AQ;go_wp2;go_region;have BO:=Hi BQ.drew;clear b0 b1 p0 p1;generalize W1.drew=W2 at BO ⊢;obtain⟨b0,b1⟩:=NZ BO.box;obtain⟨p0,p1⟩:=HP _ BO.AQ;go_wp2;go_roundw
      case rel=>exact⟨k+1,m,o,true,by omega,by simp[MF.out],by omega,by go_num,rfl,HN,BO⟩
      case measure=>simp[intOf];omega
    ·
     cases d with
     |false=>
      have Ct:Op.bytesLess x1 c.name=false:=(by rw[Go.Proofs.bytesLess_eq];simpa using h1);have hne:(x1 == c.name)=false:=(by simpa using h2);have HN:=Hi (show((o++[(c.name,c.data)])++[(x1,x2)])++FB c true (A.drop (k+1))=FB c gn A by rw[←IV.out];simp[h1,h2]);clear h1 h2;go_wp2;go_region;have BQ:=Hi Ie.drew;clear b0 b1 Lt EC;generalize wr.drew=W1 at BQ ⊢;obtain⟨b0,b1⟩:=NZ BQ.box;obtain⟨p0,p1⟩:=HP _ BQ.AQ;go_wp2_with (at_builtin;refine wpList_append_own_at _ rfl _ _ 30 rfl (w.heap.size+1) 51 i0 _ 2 32 underlying30 Bg AX AY Ba rfl (by decide) (.slice oq m Ha) m _ rfl (BQ.row.alloc _) ⟨W1.heap.size,0,none⟩ 1 1 [.string (bs c.name),.string (bs c.data)] rfl rfl (by intro j u hj;rw[add_plain,E8];exact(Dx▸hj)) (by simp[Value.oneCell']) (by unfold maxLen;omega) (by omega) (by rw[Ar];have:=Ao BQ.box;omega) ?_;intro v1 w1 DL MQ _ _;obtain⟨g1,Vu,rfl⟩:=ownsRow_succ DL;have Jg:=Hi (BQ.add MQ DL);clear DL MQ);have BO:=Hi Jg.drew;obtain⟨e0,e1⟩:=NZ Jg.box;obtain⟨r0,r1⟩:=HP _ Jg.AQ;go_wp2;go_region;clear b0 b1 p0 p1 e0 e1 r0 r1;generalize w1.drew=W2 at BO ⊢;obtain⟨b0,b1⟩:=NZ BO.box;obtain⟨p0,p1⟩:=HP _ BO.AQ
      go_wp2_with (at_builtin;refine wpList_append_own_at _ rfl _ _ 30 rfl (w.heap.size+1) 51 i0 _ 2 32 underlying30 Bg AX AY Ba rfl (by decide) (.slice (some ⟨g1,0,none⟩) (m+1) Vu) (m+1) _ rfl (BO.row.alloc _) ⟨W2.heap.size,0,none⟩ 1 1 [.string (bs x1),.string (bs x2)] rfl rfl (by intro j u hj;rw[add_plain,E8];exact(Dx▸hj)) (by simp[Value.oneCell']) (by unfold maxLen;omega) (by omega) (by rw[Ar];have:=Ao BO.box;omega) ?_;intro v2 w2 Dj El _ _;obtain⟨g2,cap2,rfl⟩:=ownsRow_succ Dj;have GM:=Hi (BO.add El Dj);clear Dj El);go_roundw
      case rel=>exact⟨k+1,m+1+1,(o++[(c.name,c.data)])++[(x1,x2)],true,by omega,by simp[MF.out],by omega,by go_num,rfl,HN,GM⟩
      case measure=>simp[intOf];omega
     |true=>
      have Ct:Op.bytesLess x1 c.name=false:=(by rw[Go.Proofs.bytesLess_eq];simpa using h1);have hne:(x1 == c.name)=false:=(by simpa using h2);have HN:=Hi (show(o++[(x1,x2)])++FB c true (A.drop (k+1))=FB c gn A by rw[←IV.out];simp[h2]);clear h1 h2;go_wp2;go_region;have BQ:=Hi Ie.drew;clear b0 b1 Lt EC;generalize wr.drew=W1 at BQ ⊢;obtain⟨b0,b1⟩:=NZ BQ.box;obtain⟨p0,p1⟩:=HP _ BQ.AQ;go_wp2;go_region;have BO:=Hi BQ.drew;clear b0 b1 p0 p1;generalize W1.drew=W2 at BO ⊢;obtain⟨b0,b1⟩:=NZ BO.box;obtain⟨p0,p1⟩:=HP _ BO.AQ;go_wp2_with (at_builtin;refine wpList_append_own_at _ rfl _ _ 30 rfl (w.heap.size+1) 51 i0 _ 2 32 underlying30 Bg AX AY Ba rfl (by decide) (.slice oq m Ha) m _ rfl (BO.row.alloc _) ⟨W2.heap.size,0,none⟩ 1 1 [.string (bs x1),.string (bs x2)] rfl rfl (by intro j u hj;rw[add_plain,E8];exact(Dx▸hj)) (by simp[Value.oneCell']) (by unfold maxLen;omega) (by omega) (by rw[Ar];have:=Ao BO.box;omega) ?_;intro v2 w2 Dj El _ _;obtain⟨g2,cap2,rfl⟩:=ownsRow_succ Dj;have GM:=Hi (BO.add El Dj);clear Dj El);go_roundw
      case rel=>exact⟨k+1,m+1,o++[(x1,x2)],true,by omega,by simp[MF.out],by omega,by go_num,rfl,HN,GM⟩
      case measure=>simp[intOf];omega
  ·obtain rfl:k=A.length:=(by omega);rw[List.drop_length] at Gp;obtain⟨b0,b1⟩:=NZ Bl.box;clear Bl;cases d with
   |false=>
    have HN:=Hi (show o++[(c.name,c.data)]=Am.on A c by rw[←HE.out,←Gp];rfl);clear Gp;go_wp2_with (at_builtin;refine wpList_append_own_at _ rfl _ _ 30 rfl (w.heap.size+1) 51 i0 _ 2 32 underlying30 Bg AX AY Ba rfl (by decide) (.slice oq m Ha) m _ rfl (Ie.row.alloc _) ⟨wr.heap.size,0,none⟩ 1 1 [.string (bs c.name),.string (bs c.data)] rfl rfl (by intro j u hj;rw[add_plain,E8];exact(Dx▸hj)) (by simp[Value.oneCell']) (by unfold maxLen;omega) (by omega) (by rw[Ar];have:=Ao Ie.box;omega) ?_;intro v0 w0 II Ze _ _;obtain⟨g0,cap0,rfl⟩:=ownsRow_succ II;have WN:=Hi (Ie.add Ze II);clear II Ze);go_ret;refine⟨_,rfl,?_,WN.AQ⟩;rw[←HN.out];unfold BK;rw[Az,MF.out];exact Fu WN.row (by omega)
   |true=>
    have HN:=Hi (show o=Am.on A c by rw[←HE.out,←Gp];exact(En o).symm);clear Gp;go_wp2;go_ret;refine⟨_,rfl,?_,Ie.AQ⟩;rw[←HN.out];unfold BK;rw[MF.out];exact Fu Ie.row (by omega)
end
end Mem
namespace Mem
open Aq Af Ap Bu Kp BM Hex BD Al
theorem aAq{w:World}{a:Option Addr}{l:List T}(cap:Nat)(hl:Dv w a l)(k:T)(hlen:l.length≤1000000000):
  Calls prog 31 #[.slice a l.length cap,.string (bs k)] w fun e w'=>∃ i:Int,e=.returned (.int .i64 i)∧(decide (0≤i))=decide (k∈l)∧Bw w w':=by
 have HL:=Hi hl;clear hl
 go_in
 go_wp2
 go_loopw [5,8] (fun _ i wr=>∃ n:Nat,n≤l.length∧i=.int .i64 n∧Bw w wr∧k∉l.take n) (fun _ i _=>l.length -(intOf i).toNat)
 case atStart=>exact⟨0,AZ _,rfl,Ah _ _,by simp⟩
 case round=>
  obtain⟨n,hn,rfl,hb,Cv⟩:=hrel;have DJ:=Hi Cv;have HB:=Hi hb;clear Cv;by_cases hlt:n < l.length
  ·obtain⟨q,Cx,c0⟩:=(HL.below hb).index cap n hlt;have Lb:=Hi (Dc hlt)
   have Dh:=Hi (show k≠l[n]→k∉l.take (n+1) from fun h=>by
    rw[CQ hlt,EG];rintro(e|e)
    ·exact DJ e
    ·exact h (by simpa using e))
   generalize l[n]=x at*;clear hb;by_cases hx:k=x
   ·subst hx;go_wp2;go_ret;exact⟨_,rfl,by simp[Lb.out],HB⟩
   ·have Zu:(k == x)=false:=EH.2 hx;have HN:=Hi (Dh hx);clear Dh Lb;go_wp2;go_roundw
    case rel=>exact⟨n+1,by omega,by go_num,HB,HN⟩
    case measure=>simp[intOf];omega
  ·obtain rfl:n=l.length:=(by omega);have Cv:k∉l:=by
    have:=DJ.out;rwa[Dq] at this
   clear hb;go_wp2;go_ret;exact⟨_,rfl,by simp[Cv],HB⟩
theorem aAh{w:World}{a:Option Addr}{l:List T}(cap:Nat)(hl:Dv w a l)(k:T)(hlen:l.length≤1000000000):
  Calls prog 156 #[.slice a l.length cap,.string (bs k)] w fun e w'=>e=.returned (.bool (decide (k∈l)))∧Bw w w':=by
 have HI:=Hi (aAq cap hl k hlen);clear hl;generalize decide (k∈l)=d at*
 go_in
 go_wp2_with fail;refine HI.mono ?_;rintro e w1⟨i,rfl,hd,hb⟩;have HB:=Hi hb;have HD:=Hi hd;clear hb hd;go_wp2;go_ret;exact⟨by rw[←HD.out];rfl,HB⟩
end Mem
namespace Cg
open Aq Af Ap Bu Kp BM Hex BD Mem
theorem oK(k:T)(w:World)(hk:k.length≤1000000):Calls prog 107 #[.string (bs k)] w fun e w'=>e=.returned (.string (bs (Ab.nm k)))∧Bw w w':=by
 have hm:({ data:=#[117] }:ByteArray)=bs [117]:=rfl;have hcut:∀ W,(Instr.slice 9 (.string (bs (EO k))) none (some (.int .i64 8)) none).run prog W=.ok (.string (bs ((EO k).take 8))) W:=fun W=>O1 prog W 9 underlying9 (EO k) 8 (by rw[TG];decide)
 have HE:=Hi (show Ab.nm k=[117]++Er ((EO k).take 8) from rfl);have hl:(Er ((EO k).take 8)).length=16:=by rw[Rx,Be,TG];rfl
 have HS:=Hi (amF k hk w);have HH:=Hi (fun(W:World)=>aau ((EO k).take 8) W (by rw[Be,TG];decide));rw[HE.out];generalize EO k=s at*;generalize Er (s.take 8)=h at*
 go_in
 go_wp2_with fail;refine HS.mono ?_;rintro e w1⟨rfl,Ai⟩;have HB1:=Hi Ai;clear Ai;go_wp2_with fail;refine(HH _).mono ?_;rintro e w2⟨rfl,Ad⟩;have Ak:=bH HB1 Ad;clear Ad;go_wp2;go_ret;exact⟨rfl,Ak⟩
theorem ar0(name:T)(w:World)(hn:name.length≤1000000):Calls prog 202 #[.string (bs name)] w fun e w'=>e=.returned (.bool (Ab.ours name))∧Bw w w':=by
 show Calls _ _ _ _ fun e w'=>e=.returned (.bool (Na 117 name))∧_
 by_cases h1:name.length=17
 ·have zQ:(name.length:Int)=17:=by omega
  have hlt:0 < name.length:=by omega
  have dD:(0:Int) < (name.length:Int):=by omega
  have hd:name.head?=some name[0]:=by
   cases name with
   |nil=>simp at h1
   |cons a l=>rfl
  by_cases h2:name[0]=117
  ·have hR:=Hi (al8 (c:=117) h1 (by rw[hd,h2]));have hcut:∀ W,(Instr.slice 9 (.string (bs name)) (some (.int .i64 1)) none none).run prog W=.ok (.string (bs (name.drop 1))) W:=fun W=>Mk prog W 9 underlying9 name 1 (by omega)
   have j6:(name[0].toNat:Int)=117:=(by rw[h2];rfl);have HU:=Hi (ad9 (name.drop 1) w (by rw[Cs];omega));have HV:=Hi (anr (name.drop 1));rw[hR.out,←HV.out];generalize He (name.drop 1)=V at*;clear hd h2 HV hR;generalize name.drop 1=dn at*
   go_in
   go_wp2_with fail;refine HU.mono ?_;rintro e w1⟨rfl,hb⟩;have HB:=Hi hb;clear hb;go_wp2;go_ret;exact⟨by simp;rfl,HB⟩
  ·have hR:Hid (Na 117 name=false):=Hi (tQ (fun h=>h2 (by have:=h.2;rw[hd] at this;injection this)));have j6:¬ (name[0].toNat:Int)=117:=fun e=>h2 (by apply UInt8.toNat_inj.1;have h9:(117:UInt8).toNat=117:=rfl;rw[h9];omega)
   rw[hR.out];clear hd h2
   go_in
   go_wp2;go_ret;exact⟨rfl,Ah _ _⟩
 ·have zQ:¬ (name.length:Int)=17:=by omega
  have hR:Hid (Na 117 name=false):=Hi (tQ (fun h=>h1 h.1));rw[hR.out]
  go_in
  go_wp2;go_ret;exact⟨rfl,Ah _ _⟩
end Cg
namespace Ap
open Go.Sort Go.Shelf Go.Lib
open Aq Af
theorem yZ{w:World}{base:Nat}{v:Value}{l:List (List UInt8)}(h:Bq w base v l)(hl:l.length≤1000000):
  Calls prog 106 #[v] w fun e w'=>∃ v',e=.returned v'∧Bq w' w.heap.size v' (Bc l)∧Bw w w':=by
 have HC:=Hi (aqs h hl);have dK:v.oneCell'=true:=by obtain⟨q,cap,rfl⟩:=Bp h;rfl
 clear h
 go_in
 go_wp2_with fail;refine HC.mono ?_;rintro e w1⟨v1,rfl,DL,Et,Ai⟩;rcases DL.parts with⟨rfl,rfl⟩|⟨g,cap,rfl,hg,Zl,PD,NP⟩
 ·have HB1:=Hi Ai;clear DL Et Ai;go_wp2_with fail;refine(AnyM.slices_Sort_string_none X7 none 0 _).mono ?_;rintro e w2⟨rfl,rfl⟩;go_wp2_with fail;refine(Any.slices_Compact_string_empty dY none 0 _).mono ?_;rintro e w3⟨rfl,rfl⟩;go_wp2;go_ret;exact⟨_,rfl,by unfold Bq;rw[show Bc []=[] by simp[Bc,Lib.compact,Lib.compactUpTo],LG];exact E5 _ _ _ _,HB1⟩
 ·have Ti:=DL;unfold Bq at Ti;rw[LG] at Ti;obtain⟨g2,cap2,e2,_,_,_,_,_,hH⟩:=holds_of_ownsRow Ti (by simp);cases e2;have CW:=Hi Ti;have HB1:=Hi Ai;have HH:=Hi hH;clear DL Ti Et Ai hH;go_wp2_with fail;refine(AnyM.slices_Sort_string X7 g 0 cap l _ HH NP (by omega)).mono ?_;rintro e w2⟨rfl,n,os,rfl⟩;have CZ:(l.mergeSort fun x y=>decide (x≤y)).length=l.length:=by simp
  have Dj:=ownsRow_putRow (q:=n) CW CZ (Ae _);have Ad:=below_putRow (q:=n) (enc:=encStr) (d:=(l.mergeSort fun x y=>decide (x≤y)).toArray) HB1 hg;have JI:=BH Dj (ub (below_grow (Ah _ _) (Ae _) os)) (fun _ _ f=>f);have Aw:=below_grow Ad Ad.size os;clear Dj Ad;rw[I7 (by rw[CZ];omega)] at JI;obtain⟨S,NI⟩:∃ S,(l.mergeSort fun x y=>decide (x≤y))=S:=⟨_,rfl⟩;have hR:Hid (Bc l=Lib.compact S):=Hi (by unfold Bc;rw[NI]);rw[NI] at JI Aw CZ ⊢;generalize Go.Sort.grow (Go.Sort.putRow encStr (Sort.ahead w1 n) g 0 S.toArray) os=w3 at*;obtain⟨g3,og,e3,_,_,_,_,_,YW⟩:=holds_of_ownsRow JI (by simp);cases e3;have Uo:=Any.slices_Compact_string dY g 0 cap S w3 YW (by omega) (by omega);rw[←CZ] at JI;rw[show(sO.f 194)=71 from rfl,CZ] at Uo;have vV:=Hi Uo;have Ob:=Hi JI;have AA:=Hi Aw;have HH3:=Hi YW;clear JI Aw YW Uo;go_wp2_with fail;refine vV.mono ?_;rintro e w4⟨rfl,q,rfl⟩;rw[←CZ];have BJ:=compact_length_le S;have Uz:=ownsRow_putRow (q:=q) (k:=(Lib.compact S).length) Ob (ys:=Lib.compact S++List.replicate (S.length -(Lib.compact S).length) []) (by simp;omega) BJ;have AB:=below_putRow (q:=q) (enc:=encStr) (d:=(Lib.compact S++List.replicate (S.length -(Lib.compact S).length) []).toArray) AA hg;rw[IP rfl] at Uz;generalize Go.Sort.putRow encStr (Sort.ahead w3 q) g 0 (Lib.compact S++List.replicate (S.length -(Lib.compact S).length) []).toArray=w4 at*;have wW:=Hi Uz;have AU:=Hi AB;clear Uz AB;go_wp2;go_ret;refine⟨_,rfl,?_,AU⟩;unfold Bq;rw[hR.out,LG];exact wW.out
end Ap
namespace Cg
open Aq Af Ap Bu Kp BM Hex BD Mem
theorem aqS(name data:T):Ab.Cw name data=if(A9.EE data).2=0 then(Ht (A9.EE data).1).bind fun l=>if l≠[]∧(Eb l).length=l.length∧∀ p∈l,Ab.nm p.1=name∧rowOk p=true then some l else none else none:=by
 rfl
theorem ayu{s:T}{l:List T}(h:Dl s=some l):l.length≤65535:=by
 unfold Dl at h;split at h
 ·cases h
 ·cases h1:EF (A9.val (s.take 2)) (s.drop 2) with
  |none=>rw[h1] at h;cases h
  |some r=>
   rw[h1] at h;simp only[CF] at h;split at h
   ·simp only[Ci] at h;obtain⟨e1,a,e2,e3⟩:=acu (l:=r.1) (r:=r.2) h1;have hv:=A9.Jb (s.take 2);have hl:(s.take 2).length≤2:=(by rw[Be];omega);have hp:256 ^ (s.take 2).length≤256 ^ 2:=Nat.pow_le_pow_right (by decide) hl;have Gr:A9.val (s.take 2) < 65536:=I9 hv hp;rw[←h,e1];omega
   ·cases h
def adz(w:World)(q:Option Addr)(cap:Nat)(l:M)(name:T)(i:Value)(wr:World):Prop:=∃ k:Nat,k≤l.length∧i=.int .i64 k∧Bw w wr∧BK wr w.heap.size (.slice q l.length cap) l∧∀ p∈l.take k,Ab.nm p.1=name∧rowOk p=true
theorem ar1(name data:T)(w:World)(hd:data.length≤1000000):Calls prog 191 #[.string (bs name),.string (bs data)] w fun e w'=>Mem.M7 w (Ab.Cw name data) e w':=by
 have Qf:=Hi (aqS name data);have HO:=Hi (al5 data w (by omega));have CZ:(A9.EE data).1.length≤1000000:=by
  by_cases h:(A9.EE data).2=0
  ·have:=congrArg List.length (A9.ac6 h);rw[A9.RU] at this;omega
  ·unfold A9.EE at h ⊢;split
   ·simp
   ·split
    ·rename_i h1 h2
     rw[Aa h1,Ac h2] at h;exact absurd rfl h
    ·simp
 generalize (A9.EE data).1=s at*;generalize (A9.EE data).2=c at*;have HG:=Hi (fun(W:World)=>alm s W (by omega));by_cases hc:c=0
 ·subst hc;cases hg:Ht s with
  |none=>
   have hR:Hid (Ab.Cw name data=none):=Hi (by rw[Qf.out,Ac rfl,hg];rfl);have Du:=Hi (show ∀ W,Calls prog 229 #[.string (bs s)] W fun e w'=>e=.returned (.tuple #[.slice none 0 0,.int .i64 7])∧Bw W w' from fun W=>by have:=HG W;unfold Vq at this;rw[hg] at this;exact this);clear HG Qf hg
   go_in
   go_wp2_with fail;refine HO.mono ?_;rintro e w1⟨rfl,Ai⟩;have HB1:=Hi Ai;clear Ai;go_wp2_with fail;refine(Du _).mono ?_;rintro e w2⟨rfl,Ad⟩;have Ak:=bH HB1 Ad;clear Ad;go_wp2;go_ret2;exact Mem.LC hR.out rfl Ak.out
  |some l=>
   have Du:=Hi (show ∀ W,Calls prog 229 #[.string (bs s)] W fun e w'=>∃ v,e=.returned (.tuple #[v,.int .i64 0])∧BK w' W.heap.size v l∧Bw W w' from fun W=>by have:=HG W;unfold Vq at this;rw[hg] at this;exact this);have Yq:=Hi (show Ab.Cw name data=if l≠[]∧(Eb l).length=l.length∧∀ p∈l,Ab.nm p.1=name∧rowOk p=true then some l else none from by rw[Qf.out,Ac rfl,hg];rfl);obtain⟨hl,hsh⟩:=zG hg;have Rh:=Hi hsh;clear HG Qf hg hsh;by_cases hz:l=[]
   ·have hR:Hid (Ab.Cw name data=none):=Hi (by rw[Yq.out,Aa (fun h=>h.1 hz)]);have AX:(l.length:Int)=0:=(by rw[hz];rfl);clear hz
    go_in
    go_wp2_with fail;refine HO.mono ?_;rintro e w1⟨rfl,Ai⟩;have HB1:=Hi Ai;clear Ai;go_wp2_with fail;refine(Du _).mono ?_;rintro e w2⟨v,rfl,Ag,Ad⟩;obtain⟨q,cap,rfl,GY,BJ⟩:=Fz Ag;have Ak:=bH HB1 Ad;clear Ad Ag;go_wp2;go_ret2;exact Mem.LC hR.out rfl Ak.out
   ·have AX:¬ (l.length:Int)=0:=fun e=>hz (JW.1 (by omega))
    have hzb:((l.length:Int) == 0)=false:=EH.2 AX;by_cases hk:(Eb l).length=l.length
    ·have gT:=Hi (show Ab.Cw name data=if ∀ p∈l,Ab.nm p.1=name∧rowOk p=true then some l else none from by
      rw[Yq.out];by_cases h:∀ p∈l,Ab.nm p.1=name∧rowOk p=true
      ·rw[Ac ⟨hz,hk,h⟩,Ac h]
      ·rw[Aa (fun x=>h x.2.2),Aa h])
     have dh:((Eb l).length:Int)=(l.length:Int):=by omega
     go_in
     go_wp2_with fail;refine HO.mono ?_;rintro e w1⟨rfl,Ai⟩;have HB1:=Hi Ai;clear Ai;go_wp2_with fail;refine(Du _).mono ?_;rintro e w2⟨v,rfl,Ag,Ad⟩;obtain⟨q,cap,rfl,GY,BJ⟩:=Fz Ag;have Ak:=bH HB1 Ad;have Co:=Hi (Fu Ag HB1.size);have Ld:=Hi (eF (w:=w2) (Bj.D9 Ag) GY (by omega));clear Ad Ag;go_wp2_with fail;refine Ld.mono ?_;rintro e w3⟨kv,rfl,CJ,Aw⟩;obtain⟨kq,kc,rfl⟩:=Bp CJ;have WL:=Hi (Ch Co Aw);have AA:=bH Ak Aw;clear Aw CJ;go_wp2
     go_loopw [10,42] (fun _ i wr=>adz w q cap l name i wr) (fun _ i _=>l.length -(intOf i).toNat)
     case atStart=>exact⟨0,AZ _,rfl,AA,WL,fun p h=>by simp at h⟩
     case round=>
      obtain⟨k,DX,rfl,hb,hr,hall⟩:=hrel;have HB:=Hi hb;have HR:=Hi hr;have HA:=Hi hall;clear hall AA WL hb;by_cases hlt:k < l.length
      ·obtain⟨a,Cx,ha,-⟩:=(Bj.D9 hr).index cap k hlt;have c0:=ha.key;have c1:=ha.val;have hsk:=(Rh _ (Dc hlt)).1;have rV:=(Rh _ (Dc hlt)).2;have HT:=Hi (an8 (P:=fun p=>Ab.nm p.1=name∧rowOk p=true) hlt HA)
       have HF:=Hi (show ¬ (Ab.nm l[k].1=name∧rowOk l[k]=true)→Ab.Cw name data=none from fun hne=>by
        rw[gT.out,Aa (fun h=>hne (h _ (Dc hlt)))])
       generalize l[k]=x at*;have HN:=Hi (fun(W:World)=>oK x.1 W (by omega));have DT:=Hi (fun(W:World)=>l9 x.2 W (by omega));have GM:=Hi (show Ab.nm x.1=name∧rowOk x=true→∀ p∈l.take (k+1),Ab.nm p.1=name∧rowOk p=true from HT.out);clear ha hr HT;generalize Ab.nm x.1=nx at*;cases FP:Dl x.2 with
       |none=>
        have YD:=Hi (show ∀ W,Calls prog 203 #[.string (bs x.2)] W fun e w'=>e=.returned (.tuple #[.slice none 0 0,.int .i64 7])∧Bw W w' from fun W=>by have:=DT W;unfold Go.Proofs.YtkmninbcgipliaaGreatDoor.M7 at this;rw[FP] at this;exact this);have hR:=Hi (HF (fun h=>by have:=h.2;unfold rowOk at this;rw[FP] at this;cases this));clear HF GM DT FP HN;go_wp2_with fail;refine(YD _).mono ?_;rintro e w4⟨rfl,AB⟩;have AU:=Hi ((HB.alloc HB.size _).trans (AB.mono (by have:=HB.size;rw[Ar];omega)));clear AB;go_wp2;go_ret2;exact Mem.LC hR.out rfl AU.out
       |some kr=>
        have YD:=Hi (show ∀ W,Calls prog 203 #[.string (bs x.2)] W fun e w'=>∃ v,e=.returned (.tuple #[v,.int .i64 0])∧Ap.Bq w' 0 v kr∧Bw W w' from fun W=>(DT W).mono fun e w' h=>by
         unfold Go.Proofs.YtkmninbcgipliaaGreatDoor.M7 at h;rw[FP] at h;obtain⟨v,h1,h2,h3,_⟩:=h;exact⟨v,h1,h2,h3⟩)
        have XA:=ayu FP;have M4:=Hi (show rowOk x=decide (Bc kr=kr) from by unfold rowOk;rw[FP]);have aj6:=AP wr (.cells #[.string (bs x.1),.string (bs x.2)] 51);have HNK:=Hi aj6;clear DT FP aj6;go_wp2_with fail;refine(YD _).mono ?_;rintro e w4⟨kv4,rfl,aaH,AB⟩;obtain⟨kq,kc,rfl⟩:=Bp aaH;have aj7:=(AB.block _ (Ao HNK)).trans HNK.out;have d0:w4.cell? ⟨wr.heap.size,0,none⟩=some (.string (bs x.1)):=cr aj7;have Le:=Hi (Ch (HR.alloc _) AB);have AU:=Hi ((HB.alloc HB.size _).trans (AB.mono (by have:=HB.size;rw[Ar];omega)));have wK:=Hi aaH;clear AB aj7 aaH;go_wp2_with fail;refine(HN _).mono ?_;rintro e w5⟨rfl,Bo⟩;have M3:=Hi (Ch Le Bo);have Cy:=bH AU Bo;have aaI:=Ch wK Bo;have Ej:=Hi (yZ aaI (by omega));have aoF:=Hi aaI;clear Bo aaI;by_cases heq:nx=name
        ·have auj:(nx == name)=true:=beq_iff_eq.2 heq;go_wp2_with fail;refine Ej.mono ?_;rintro e w6⟨rv,rfl,hrv,Cb⟩;obtain⟨rq,rc,rfl⟩:=Bp hrv;have Mg:=UM kr;have HEQ:=Hi (arv (Ch aoF Cb) hrv (by omega) (by omega));have Ho:=Hi (Ch M3 Cb);have EJ:=bH Cy Cb;clear Cb hrv;go_wp2_with fail;refine HEQ.mono ?_;rintro e w7⟨rfl,EW⟩;have nL:=Hi (Ch Ho EW);have Ed:=bH EJ EW;clear EW;by_cases dQ:kr=Bc kr
         ·have jH:decide (kr=Bc kr)=true:=OT dQ;have Cz:=Hi (show adz w q cap l name (.int .i64 ((k:Int)+1)) w7 from⟨k+1,by omega,by go_num,Ed,nL,GM ⟨heq,by rw[M4.out];exact OT dQ.symm⟩⟩);rw[jH];clear dQ jH GM HF M4;go_wp2;go_roundw
          case rel=>exact Cz.out
          case measure=>
           show l.length -((k:Int)+1).toNat < l.length -((k:Int)).toNat
           omega
         ·have jH:decide (kr=Bc kr)=false:=decide_eq_false dQ;have hR:=Hi (HF (fun h=>dQ (by have:=h.2;rw[M4.out] at this;exact(Q4 this).symm)));rw[jH];clear dQ jH GM HF M4;go_wp2;go_ret2;exact Mem.LC hR.out rfl Ed.out
        ·have auj:(nx == name)=false:=EH.2 heq;have hR:=Hi (HF (fun h=>heq h.1));clear GM HF M4;go_wp2;go_ret2;exact Mem.LC hR.out rfl Cy.out
      ·obtain rfl:k=l.length:=by omega
       have hR:Hid (Ab.Cw name data=some l):=Hi (by
        rw[gT.out,Ac];have:=HA.out;rwa[Dq] at this)
       clear hr;go_wp2;go_ret2;exact Mem.lu hR.out rfl HR GY HB.out
    ·have hR:Hid (Ab.Cw name data=none):=Hi (by rw[Yq.out,Aa (fun h=>hk h.2.1)]);have dh:¬ ((Eb l).length:Int)=(l.length:Int):=(by omega);have di:(((Eb l).length:Int) != (l.length:Int))=true:=bne_iff_ne.2 dh
     go_in
     go_wp2_with fail;refine HO.mono ?_;rintro e w1⟨rfl,Ai⟩;have HB1:=Hi Ai;clear Ai;go_wp2_with fail;refine(Du _).mono ?_;rintro e w2⟨v,rfl,Ag,Ad⟩;obtain⟨q,cap,rfl,GY,BJ⟩:=Fz Ag;have Ak:=bH HB1 Ad;have Ld:=Hi (eF (w:=w2) (Bj.D9 Ag) GY (by omega));clear Ad Ag;go_wp2_with fail;refine Ld.mono ?_;rintro e w3⟨kv,rfl,CJ,Aw⟩;obtain⟨kq,kc,rfl⟩:=Bp CJ;have AA:=bH Ak Aw;clear Aw CJ;go_wp2;go_ret2;exact Mem.LC hR.out rfl AA.out
 ·have hR:Hid (Ab.Cw name data=none):=Hi (by rw[Qf.out,Aa hc]);clear HG Qf
  go_in
  go_wp2_with fail;refine HO.mono ?_;rintro e w1⟨rfl,Ai⟩;have HB1:=Hi Ai;clear Ai;go_wp2;go_ret2;exact Mem.LC hR.out rfl HB1.out
end Cg
namespace Cg
open Aq Af Ap Bu Kp BM Hex BD Mem
def Fx(w:World)(p y:Nat):Prop:=w.heap[p]?=some (.cells #[.pointer (some ⟨y,0,none⟩)] 162)
theorem Fx.cell{w:World}{p y:Nat}(h:Fx w p y):w.cell? ⟨p,0,none⟩=some (.pointer (some ⟨y,0,none⟩)):=by
 rw[BF _ _ _ _ _ _ h];rfl
theorem Fx.lt{w:World}{p y:Nat}(h:Fx w p y):p < w.heap.size:=Ao h
theorem Fx.below{w w':World}{p y:Nat}(h:Fx w p y)(hb:Bw w w'):Fx w' p y:=(hb.block p (Ao h)).trans h
theorem Fx.upd{F:Nat→Prop}{w w':World}{p y:Nat}(h:Fx w p y)(hu:A7 F w w')(hF:¬ F p):Fx w' p y:=(hu.block p (Ao h) hF).trans h
theorem aqW(y:Nat)(w:World):Calls prog 27 #[.pointer (some ⟨y,0,none⟩)] w fun e w'=>∃ p,e=.returned (.tuple #[.pointer (some ⟨p,0,none⟩),.int .i64 0])∧Fx w' p y∧w.heap.size≤p∧Bw w w':=by
 go_in
 go_wp2;go_ret2;exact⟨_,rfl,AP w _,Ae _,AV w _⟩
theorem oL{w:World}{p y:Nat}{A:M}(hm:Fx w p y)(hg:Ap.OV w y A)(name:T)(hn:name.length≤1000):Calls prog 108 #[.pointer (some ⟨p,0,none⟩),.string (bs name)] w fun e w'=>Ql Ab w A name e w':=by
 have c:=hm.cell;have HG:=Hi (hg.gets w (Ah _ _) name hn);have hs:=hg.small name;have HF:=Hi (show fileOf Ab A name=(Af.get A name).bind (Ab.Cw name) from rfl);clear hg hm;cases hx:Af.get A name with
 |none=>
  rw[hx] at HG HF;have hF:fileOf Ab A name=none:=HF.out;have HP:=Hi (show ∀ W',Bw w W'→Ql Ab w A name (.returned (.tuple #[.slice none 0 0,.bool false,.bool false])) W' from fun W' hb=>⟨none,0,by rw[hF,hx];rfl,by rw[hF];exact Wl _ _,fun _=>rfl,hb⟩);clear hx HF hF hs
  go_in
  go_wp2_with fail;refine HG.mono ?_;rintro e w1⟨rfl,Ai⟩;have HB1:=Hi Ai;clear Ai;go_wp2_with fail;exact EI (v:=.tuple #[.slice none 0 0,.bool false,.bool false]) (by simp[results,results108,go_sem]) rfl (HP _ HB1)
 |some d=>
  rw[hx] at HG HF;have hF:fileOf Ab A name=Ab.Cw name d:=HF.out;have MP:d.length≤1000000:=by rw[hx] at hs;exact hs
  have HR:=Hi (fun(W:World)=>ar1 name d W MP);have Qe:=Hi (show(Af.get A name).isSome=true from by rw[hx];rfl);clear HF hs hx;cases hr:Ab.Cw name d with
  |none=>
   rw[hr] at HR hF;have HP:=Hi (show ∀ W',Bw w W'→Ql Ab w A name (.returned (.tuple #[.slice none 0 0,.bool true,.bool false])) W' from fun W' hb=>⟨none,0,by rw[hF,Qe.out];rfl,by rw[hF];exact Wl _ _,fun _=>rfl,hb⟩);clear hF hr Qe
   go_in
   go_wp2_with fail;refine HG.mono ?_;rintro e w1⟨rfl,Ai⟩;have HB1:=Hi Ai;clear Ai;go_wp2_with fail;refine(HR _).mono ?_;rintro e w2⟨rfl,Ad⟩;have Ak:=bH HB1 Ad;clear Ad;go_wp2_with fail;exact EI (v:=.tuple #[.slice none 0 0,.bool true,.bool false]) (by simp[results,results108,go_sem]) rfl (HP _ Ak)
  |some l=>
   rw[hr] at HR hF;have HP:=Hi (show ∀ (W':World) (q:Option Addr) (cap:Nat),BK W' w.heap.size (.slice q l.length cap) l→(q=none→cap=0)→Bw w W'→Ql Ab w A name (.returned (.tuple #[.slice q l.length cap,.bool true,.bool true])) W' from fun W' q cap h1 h2 hb=>⟨q,cap,by rw[hF,Qe.out];rfl,by rw[hF];exact h1,h2,hb⟩);clear hF hr Qe
   go_in
   go_wp2_with fail;refine HG.mono ?_;rintro e w1⟨rfl,Ai⟩;have HB1:=Hi Ai;clear Ai;go_wp2_with fail;refine(HR _).mono ?_;rintro e w2⟨q,cap,rfl,Ag,GY,Ad⟩;have Ak:=bH HB1 Ad;have HW:=Hi (Fu Ag HB1.size);clear Ad Ag;go_wp2_with fail;exact EI (v:=.tuple #[.slice q l.length cap,.bool true,.bool true]) (by simp[results,results108,go_sem]) rfl (HP _ _ _ HW GY Ak)
theorem afG{w:World}{p y:Nat}{c:Int}{P:World→World→Prop}(hm:Fx w p y)(hf:Calls prog 175 #[.pointer (some ⟨y,0,none⟩)] w fun e w'=>e=.returned (.int .i64 c)∧P w w'):
  Calls prog 104 #[.pointer (some ⟨p,0,none⟩)] w fun e w'=>e=.returned (.int .i64 c)∧P w w':=by
 have c0:=hm.cell;have HF:=Hi hf;clear hf hm
 go_in
 go_wp2_with fail;refine HF.mono ?_;rintro e w1⟨rfl,Ai⟩;go_wp2;go_ret;exact⟨rfl,Ai⟩
end Cg
namespace Cg
open Aq Af Ap Bu Kp BM Hex BD Al Mem
theorem yT(p:Nat)(w:World):
  Calls prog 123 #[.pointer (some ⟨p,0,none⟩)] w fun e w'=>e=.returned (.func (.func 201) #[] #[.pointer (some ⟨w.heap.size,0,none⟩)])∧w'=w.alloc (.cells #[.pointer (some ⟨p,0,none⟩)] 44):=by
 go_in
 go_wp2;go_ret;exact⟨rfl,rfl⟩
theorem yS(n:Nat)(hn:1≤n){w:World}{p y:Nat}{A:M}(hm:Fx w p y)(hf:Hm w y A)(oc Bx:Nat){J:Nat→List T→World→Prop}(hJ:WT w oc J)(w1:World):
  WU n prog 201 #[.pointer (some ⟨Bx,0,none⟩)] oP (O5 w oc Bx (.pointer (some ⟨p,0,none⟩)) 44 Ab A J) (TL w oc Bx (.pointer (some ⟨p,0,none⟩)) 44 Ab A J) (fun xs=>xs.map (·.name)=I4 Ab A) w1:=by
 intro l Bk W Uk hY hW h0 IZ;have j4:Bw w W∧w.heap.size≤oc∧oc < Bx∧W.heap[Bx]?=some (.cells #[.pointer (some ⟨p,0,none⟩)] 44)∧∃ B,B≤W.heap.size∧J B [] W:=by
  rcases h0 with⟨-,h⟩|⟨B0,q0,c0,g1,-,g2,g3⟩
  ·exact h
  ·exact⟨g1.AQ,g1.low,g1.lt,g1.box,B0,g1.size,g3⟩
 obtain⟨g1,g2,g3,g4,B0,g5,g6⟩:=j4;clear h0;have Jj:W.cell? ⟨Bx,0,none⟩=some (.pointer (some ⟨p,0,none⟩)):=cr g4;have Ux:=(hm.below g1).cell;have Jv:=Hi (hf.names W g1);have G1:=Hi g1;have G2:=Hi g2;have G3:=Hi g3;have G4:=Hi g4;have G5:=Hi g5;have G6:=Hi g6;have WE:=Hi IZ;have R7:=Hi Uk;have HJ:=Hi hJ;have HM:=Hi hm;have HF:=Hi hf;have hlen:=hf.len;clear g1 g2 g3 g4 g5 g6 IZ Uk hJ hm hf;refine callsIn_of_wp func201 rfl trivial ?_ rfl;simp only[ntmps201,Kr,BN,Iu,Nat.reduceAdd,Nat.reduceSub,Mm,Mq,Mv,Ms,Ev,Hf]
 gi_wp2
 refine⟨trivial,(Dr.2 Jv).mono ?_⟩;rintro e w2⟨v,rfl,Ag,Ad,hown⟩;have Ak:=bH G1 Ad;have jA:Bk w2:=R7 _ _ WE (UI (ub Ad) (fun _ _ f=>f.elim));have Qy:J w2.heap.size [] w2:=HJ.raise _ _ _ (HJ.below _ _ _ _ G6 Ad) (Ay G5 Ad.size) (Ae _);obtain⟨q,c,rfl⟩:∃ q c,v=.slice q (A.map (·.1)).length c:=by
  rw[Ca];exact Bp Ag
 have Rt:LP w oc Bx w2.heap.size (.pointer (some ⟨p,0,none⟩)) 44 q c (A.map (·.1)) w2:=⟨Ak,G2,G3,I9 (Ao G4) Ad.size,Ae _,(Ad.block _ (Ao G4)).trans G4,by rw[Ca] at Ag ⊢;exact Ag,fun k hk=>⟨I9 (Nat.lt_trans G3 (Ao G4)) (hown k hk),by
  obtain⟨cs,fz,h⟩:=CB Ag hk;exact Ao h⟩⟩
 have Nn:=Hi Rt;have Yr:=Hi Qy;have gp:=Hi jA;generalize w2.heap.size=B at*;clear Rt Qy jA Ag Ad hown Jv G1 G2 G3 G4 G5 G6 WE;have Yx:=Hi (show ∀ t∈A.map (·.1),t.length≤1000 from fun t ht=>HF.short t ht);have FN:((A.map (·.1)).length:Int)=(A.length:Int):=by rw[Ca]
 gi_wp2
 gi_loopw [16] (fun i wr=>mE w oc Bx B (.pointer (some ⟨p,0,none⟩)) 44 q c Ab A J Bk i wr) (fun i _=>A.length -(intOf i).toNat)
 case atStart=>exact⟨0,[],AZ _,rfl,Nn,fun z hz=>by simp at hz,rfl,Yr,gp⟩
 case round=>
  obtain⟨k,xs,hk,rfl,h1,jM,h2,h3,h4⟩:=hrel;have Yo:=Hi jM;have H1:=Hi h1;have H2:=Hi h2;have H3:=Hi h3;have H4:=Hi h4;clear h2 h3 h4 jM Nn Yr gp;by_cases hlt:k < A.length
  ·have Tf:k < (A.map (·.1)).length:=(by rw[Ca];exact hlt);obtain⟨a,Cx,c0⟩:=(I6 (c:=c) h1.row).index c k Tf;simp only[Ca] at Cx;have Jo:∀ t∈A.map (·.1),t.length≤1000:=Yx.out;have KR:=Jo _ (Dc Tf);have CX:=Hi (tC (f:=Ab.ours) Tf);have SB:=Hi (age (f:=Ab.ours) Tf);generalize (A.map (·.1))[k]=name at*;have HO:=Hi (ar0 name wr (by omega));clear Jo;have Z7:wr.cell? ⟨Bx,0,none⟩=some (.pointer (some ⟨p,0,none⟩)):=cr h1.box;have Pv:=h1.AQ;have AR:=Hi Pv;clear h1 Pv
   gi_wp2
   refine⟨trivial,(Dr.2 HO).mono ?_⟩;rintro e w3⟨rfl,Aw⟩;have aao:w3.cell? ⟨Bx,0,none⟩=some (.pointer (some ⟨p,0,none⟩)):=(Aw.cell (D7 Z7)).trans Z7;have Jy:=Hi (H1.below Aw);have gU:=Hi (HJ.below _ _ _ _ H3 Aw);have Sv:=Hi (R7 _ _ H4 (UI (ub Aw) (fun _ _ f=>f.elim)));clear Aw Cx c0 HO Z7;cases Tj:Ab.ours name with
   |false=>
    have HX:=Hi (show xs.map (·.name)=((A.map (·.1)).take (k+1)).filter Ab.ours from by rw[CX.out,Tj,H2.out];simp);clear CX SB Tj
    gi_wp2
    go_roundw
    case rel=>exact⟨k+1,xs,by omega,by go_num,Jy,Yo,HX,gU,Sv⟩
    case measure=>
     show A.length -((k:Int)+1).toNat < A.length -((k:Int)).toNat
     omega
   |true=>
    have HX:=Hi (show xs.map (·.name)++[name]=((A.map (·.1)).take (k+1)).filter Ab.ours from by rw[CX.out,Tj,H2.out];simp);have xA:=Hi (show xs.map (·.name)++name :: ((A.map (·.1)).drop (k+1)).filter Ab.ours=I4 Ab A from by rw[H2.out];exact SB Tj);have FK:=Hi (oL (HM.below (Jy.AQ)) (HF.agU Jy.AQ) name KR);clear CX SB Tj
    gi_wp2
    refine⟨trivial,(Dr.2 FK).mono ?_⟩;rintro e w4⟨q2,c2,rfl,Ag,GY,AB⟩;have YG:=Hi (Jy.below AB);have wI:=Hi (HJ.below _ _ _ _ gU AB);have aG:=Hi (R7 _ _ Sv (UI (ub AB) (fun _ _ f=>f.elim)));obtain⟨x,H9,FH,Ty,VZ,VY⟩:∃ x:Gb,x.name=name∧x.row=.slice q2 ((fileOf Ab A name).getD []).length c2∧x.B=B∧x.q=q∧x.c=c:=⟨⟨name,_,B,q,c⟩,rfl,rfl,rfl,rfl,rfl⟩;have Xv:TL w oc Bx (.pointer (some ⟨p,0,none⟩)) 44 Ab A J xs x w4:=⟨by rw[Ty,VZ,VY];exact YG.out,by rw[Ty,VZ,VY];exact Yo.out,⟨_,by rw[H9];exact xA.out⟩,by rw[Ty];exact wI.out,⟨q2,c2,by rw[H9];exact FH,by rw[H9];exact Bj.D9 Ag,GY,by rw[H9];exact alr Ag⟩⟩;obtain⟨fn,tmps,assign,body,hy,hR⟩:=hY xs _ w4 Xv aG.out;have HR:=Hi hR;unfold oP at hy;rw[H9,FH] at hy;have iB:=Hi (show(xs++[x]).map (·.name)=((A.map (·.1)).take (k+1)).filter Ab.ours from by rw[D6,List.map_singleton,H9];exact HX.out);have xM:=Hi (show x.B=B∧x.q=q∧x.c=c from⟨Ty,VZ,VY⟩);have iC:=Hi (show x∈xs++[x] from by simp);generalize (xs++[x])=xs2 at*;clear H9 FH Ty VZ VY hR Xv Ag AB aao;generalize ((fileOf Ab A name).getD []).length=ln at*
    gi_wp2
    refine HR.mono ?_;rintro e w5⟨rfl,h5,h6⟩
    have Cz:=Hi (show mE w oc Bx B (.pointer (some ⟨p,0,none⟩)) 44 q c Ab A J Bk (.int .i64 ((k:Int)+1)) w5 from by
     rcases h5 with⟨e,-⟩|⟨B',q',c',k1,k2,k3,k4⟩
     ·have:=iC.out;rw[e] at this;simp at this
     ·obtain⟨e1,e2,e3⟩:=k2 _ iC;obtain⟨f1,f2,f3⟩:=xM.out;obtain rfl:B'=B:=e1.symm.trans f1;obtain rfl:q'=q:=e2.symm.trans f2;obtain rfl:c'=c:=e3.symm.trans f3;exact⟨k+1,xs2,by omega,by go_num,k1,k2,iB,k4,h6⟩)
    clear h5 h6 hy HR
    gi_wp2
    go_roundw
    case rel=>exact Cz.out
    case measure=>
     show A.length -((k:Int)+1).toNat < A.length -((k:Int)).toNat
     omega
  ·obtain rfl:k=A.length:=by omega
   have HE:=Hi (show xs.map (·.name)=I4 Ab A from by
    rw[H2.out,I7 (by rw[Ca];exact Ae _)];rfl)
   clear h1
   gi_wp2
   go_end0
   exact⟨⟨_,rfl⟩,xs,HE,.inr ⟨B,q,c,H1,Yo,⟨[],by rw[En,HE.out]⟩,H3⟩,H4.out⟩
theorem um(w:World)(base:Nat):Ap.Bq w base (.slice none 0 0) []:=by unfold Ap.Bq;rw[LG];exact E5 _ _ _ _
theorem amj{w:World}{base:Nat}{e:TypeId}{s n:Nat}{v:Value}{cs:List Value}(h:w.ownsRow 0 e s v n cs)(hg:∀ g,v.ownBlock=some g→base≤g):w.ownsRow base e s v n cs:=by
 refine⟨h.1,?_⟩;rcases h.2 with h|⟨g,cap,cur,k1,k2,k3⟩
 ·exact .inl h
 ·exact .inr ⟨g,cap,cur,k1,hg g (by rw[k1];rfl),k3⟩
def NG(A:M)(run:T):List T×Bool×Int:=if(Af.get A (Ab.nm run)).isSome=true∧(fileOf Ab A (Ab.nm run)).isSome=false then([],false,50) else match CK Ab A run with
 |some v=>((Dl v).getD [],true,0)
 |none=>([],false,0)
theorem asM(A:M)(key:T)(h1:(Af.get A (Ab.nm key)).isSome=true)(h2:(fileOf Ab A (Ab.nm key)).isSome=false):NG A key=([],false,50):=Ac ⟨h1,h2⟩
theorem asN(A:M)(key:T)(h:¬ ((Af.get A (Ab.nm key)).isSome=true∧(fileOf Ab A (Ab.nm key)).isSome=false)):NG A key=match Af.get ((fileOf Ab A (Ab.nm key)).getD []) key with
 |some v=>((Dl v).getD [],true,0)
 |none=>([],false,0):=by unfold NG;rw[Aa h,lX]
theorem iN(key:T):(Ab.nm key).length=17:=Gf.len key
theorem afQ(p:T×T)(w:World)(hp:p.2.length≤65535):Calls prog 125 #[.agg #[.string (bs p.1),.string (bs p.2)]] w fun e w'=>∃ v,e=.returned v∧Ap.Bq w' w.heap.size v ((Dl p.2).getD [])∧Bw w w':=by
 have HR:=Hi (fun(W:World)=>l9 p.2 W (by omega));have Au:=Hi (AV w (.cells #[.string (bs p.1),.string (bs p.2)] 51));unfold Go.Proofs.YtkmninbcgipliaaGreatDoor.M7 at HR;cases hr:Dl p.2 with
 |none=>
  simp only[hr] at HR;clear hr
  go_in
  go_wp2_with fail;refine(HR _).mono ?_;rintro e w1⟨rfl,hb⟩;have HB:=bH Au hb;clear hb;go_wp2;go_ret;exact⟨_,rfl,um _ _,HB⟩
 |some l=>
  simp only[hr] at HR;clear hr
  go_in
  go_wp2_with fail;refine(HR _).mono ?_;rintro e w1⟨v,rfl,Ag,hb,hg⟩;obtain⟨q,c,rfl⟩:=Bp Ag;have HB:=bH Au hb;have Vj:=Hi (amj (base:=w.heap.size) Ag (fun g Qw=>Ay Au.size (hg g Qw)));clear hb Ag hg;go_wp2;go_ret;exact⟨_,rfl,Vj,HB⟩
theorem aqU{w:World}{p y:Nat}{A:M}(hm:Fx w p y)(hg:Ap.OV w y A)(key:T)(hk:key.length≤1000000):
  Calls prog 47 #[.pointer (some ⟨p,0,none⟩),.string (bs key)] w fun e w'=>∃ v,e=.returned (.tuple #[v,.bool (NG A key).2.1,.int .i64 (NG A key).2.2])∧Ap.Bq w' w.heap.size v (NG A key).1∧Bw w w':=by
 have HN:=Hi (oK key w hk);have HO:=Hi (fun(W:World) (hW:Bw w W)=>oL (hm.below hW) (Xa hg hW) (Ab.nm key) (by rw[iN];decide));have HV:=Hi (asN A key);have HB:=Hi (asM A key);obtain⟨hl,hsh⟩:=@bE Ab A (Ab.nm key);unfold Ql at HO;clear hm hg;generalize (fileOf Ab A (Ab.nm key)).getD []=l at*;generalize (fileOf Ab A (Ab.nm key)).isSome=good at*;generalize (Af.get A (Ab.nm key)).isSome=Wh at*;generalize NG A key=V at*;generalize Ab.nm key=name at*;by_cases NJ:Wh=true∧good=false
 ·obtain⟨rfl,rfl⟩:=NJ;have hV:=HB rfl rfl;clear HB HV;subst hV
  go_in
  go_wp2_with fail;refine HN.mono ?_;rintro e w1⟨rfl,Ai⟩;have HB1:=Hi Ai;clear Ai;go_wp2_with fail;refine(HO _ HB1).mono ?_;rintro e w2⟨q,cap,rfl,Ag,GY,Ad⟩;have Ak:=bH HB1 Ad;clear Ad Ag;go_wp2_with fail;exact EI (v:=.tuple #[.slice none 0 0,.bool false,.int .i64 50]) (by simp[results,results47,go_sem]) rfl ⟨_,rfl,um _ _,Ak⟩
 ·have Og:=Hi (HV NJ);clear HB HV;have DK:Wh=false∨(Wh=true∧good=true):=by
   cases Wh<;>cases good<;>simp_all
  clear NJ;rcases DK with rfl|⟨rfl,rfl⟩
  all_goals
   go_in
   go_wp2_with fail;refine HN.mono ?_;rintro e w1⟨rfl,Ai⟩;have HB1:=Hi Ai;clear Ai;go_wp2_with fail;refine(HO _ HB1).mono ?_;rintro e w2⟨q,cap,rfl,Ag,GY,Ad⟩;have Ak:=bH HB1 Ad;have HP:=Hi (Bj.D9 Ag);clear Ad Ag;go_wp2
   go_loopw [11,29] (fun _ i wr=>mH w q cap l key i wr) (fun _ i _=>l.length -(intOf i).toNat)
   case atStart=>exact⟨0,AZ _,rfl,Ak,HP,rfl⟩
   case round=>
    obtain⟨k,DX,rfl,hb,hp,NN⟩:=hrel;have AA:=Hi hb;have Yz:=Hi hp;have HG:=Hi NN;clear Ak HP hb NN;by_cases hlt:k < l.length
    ·obtain⟨a,Cx,ha,-⟩:=hp.index cap k hlt;have c0:=ha.key;have c1:=ha.val;have HD:=Hi (HG.trans (agS hlt key));have rV:=(hsh _ (Dc hlt)).2;generalize l[k]=x at*;clear ha hp;by_cases heq:x.1=key
     ·have hV:=Og.out;rw[HD.out,Ac heq] at hV;subst hV;obtain⟨xk,xv⟩:=x;have heq:xk=key:=heq;subst heq;have Zu:(xk == xk)=true:=beq_self_eq_true xk;have aH:=Hi (fun(W:World)=>afQ (xk,xv) W rV);have c0:wr.cell? a=some (.string (bs xk)):=c0;have c1:wr.cell? ⟨a.block,a.off+1,none⟩=some (.string (bs xv)):=c1;have avk:=AA.size;go_wp2_with fail;refine(aH _).mono ?_;rintro e w5⟨kv,rfl,CJ,Bo⟩;obtain⟨kq,kc,rfl⟩:=Bp CJ;have Lc:=Hi (Fu CJ (by rw[Ar];omega:w.heap.size≤(wr.alloc _).heap.size));have Cy:=Hi ((AA.alloc AA.size _).trans (Bo.mono (by rw[Ar];omega)));clear CJ Bo;go_wp2_with fail;exact EI (v:=.tuple #[.slice kq ((Dl xv).getD []).length kc,.bool true,.int .i64 0]) (by simp[results,results47,go_sem]) rfl ⟨_,rfl,Lc,Cy⟩
     ·have Zu:(x.1 == key)=false:=EH.2 heq;have Nq:=Hi (HD.trans (Aa heq));go_wp2;go_roundw
      case rel=>
       have Ga:=Hi (show ∀ o,mH w q cap l key (.int .i64 ((k:Int)+1)) (wr.alloc o) from fun o=>⟨k+1,by omega,by go_num,AA.alloc AA.size o,Yz.below (AV wr o),Nq⟩)
       first
       |exact Ga _
       |(repeat apply Exists.intro
         refine⟨?_,rfl⟩;exact Ga _)
      case measure=>
       show l.length -((k:Int)+1).toNat < l.length -((k:Int)).toNat
       omega
    ·obtain rfl:k=l.length:=(by omega);have hV:=Og.out;rw[HG.out,List.drop_length] at hV;have hV:V=([],false,0):=hV;subst hV;clear hp;go_wp2_with fail;exact EI (v:=.tuple #[.slice none 0 0,.bool false,.int .i64 0]) (by simp[results,results47,go_sem]) rfl ⟨_,rfl,um _ _,AA⟩
