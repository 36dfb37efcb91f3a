/- MemE TxtW DepW DepR DepO -/
import Derived.Test.YtmbbhdebddbhoaaGreatR26
set_option maxHeartbeats 4000000
set_option maxRecDepth 100000
set_option linter.all false
namespace Go.Proofs.YtmbbhdebddbhoaaGreat
open Tryz
namespace Mem
open Go.RowKit Go.Maps
open Wal Fil Man Prs Kp Cm Hex Sha Al
def UU(w:World)(base b:Nat)(l:M):Prop:=∃ v,w.heap[b]?=some (.cells #[v] 152)∧Bo w base v l∧base≤b
theorem UU.upd{F:Nat→Prop}{w w':World}{base b:Nat}{l:M}(h:UU w base b l)(hu:A7 F w w')(h1:∀ k,F k→¬ AA w k 152)(h2:∀ k,F k→¬ AA w k 75):UU w' base b l:=by
 obtain⟨v,e,hr,hb⟩:=h;exact⟨v,(hu.block b (Ai e) (fun f=>h1 b f ⟨_,_,e⟩)).trans e,Bh hr hu (fun k hk f=>h2 k f (BQ hr hk)),hb⟩
theorem UU.below{w w':World}{base b:Nat}{l:M}(h:UU w base b l)(hb:Bw w w'):UU w' base b l:=by
 obtain⟨v,e,hr,hl⟩:=h;exact⟨v,(hb.block b (Ai e)).trans e,C9 hr hb,hl⟩
structure Dy(w:World)(base m:Nat)(L:List (T×M))(f:T→Nat):Prop where
 map:∃ kv:List (T×Value),kv.Perm (L.map fun x=>(x.1,Value.pointer (some ⟨f x.1,0,none⟩)))∧StrMap prog 9 w m kv
 nodup:(L.map (·.1)).Nodup
 RU:∀ x∈L,UU w base (f x.1) x.2
 inj:∀ x∈L,∀ y∈L,f x.1=f y.1→x.1=y.1
 low:base≤m
theorem arx:(prog.info? 147).map (fun i=>(i.zero,i.size))=some (some (.pointer none),1):=by kernel_rfl
theorem oC(w:World):(zeroValue 147).run prog w=.ok (.pointer none) w:=(zero_of_info arx).1 w
section
variable {w w':World}{base m:Nat}{L:List (T×M)}{f:T→Nat}
theorem Dy.below(h:Dy w base m L f)(hb:Bw w w'):Dy w' base m L f:=by
 obtain⟨⟨kv,h1,h2⟩,h3,h4,h5,h6⟩:=h;exact⟨⟨kv,h1,h2.kept (hb.block m h2.lt)⟩,h3,fun x hx=>(h4 x hx).below hb,h5,h6⟩
theorem Dy.VH(h:Dy w base m L f):((L.map fun x=>(x.1,Value.pointer (some ⟨f x.1,0,none⟩))).map (·.1)).Nodup:=by
 rw[List.map_map];exact h.nodup
theorem Dy.keys{kv:List (T×Value)}(h:kv.Perm (L.map fun x=>(x.1,Value.pointer (some ⟨f x.1,0,none⟩)))):(kv.map (·.1)).Perm (L.map (·.1)):=by
 have:=h.map (·.1);rwa[List.map_map] at this
theorem Dy.iE(h:Dy w base m L f){x:T×M}(hx:x∈L)(hn:x.1.length≤maxLen):
  (Instr.lookup 145 (.map (some m)) (.string (bs x.1)) false).run prog w=.ok (.pointer (some ⟨f x.1,0,none⟩)) w:=by
 obtain⟨kv,h1,h2⟩:=h.map;rw[h2.lookup underlying9 underlying145 (oC w) x.1 hn,ZL (h1.map (·.1) |>.nodup_iff.2 h.VH) h1,(XK h.VH).2 (Bz.2 ⟨x,hx,rfl⟩)];rfl
theorem Dy.asH(h:Dy w base m L f){t:T}(hx:t∉L.map (·.1))(hn:t.length≤maxLen):
  (Instr.lookup 145 (.map (some m)) (.string (bs t)) false).run prog w=.ok (.pointer none) w:=by
 obtain⟨kv,h1,h2⟩:=h.map;have:Dh kv t=none:=by
  cases hs:Dh kv t with
  |none=>rfl
  |some v=>exact absurd ((Dy.keys h1).mem_iff.1 (Bz.2 ⟨_,lh hs,rfl⟩)) hx
 rw[h2.lookup underlying9 underlying145 (oC w) t hn,this];rfl
end
def Yt(w:World)(L:List (T×M))(e:Ending)(w':World):Prop:=
 if OH L=true then ∃ q c,e=.returned (.tuple #[.slice q (K7 L).length c,.int .i64 0])∧w'.ownsRow w.heap.size 65 3 (.slice q (K7 L).length c) (K7 L).length (Mg (K7 L))∧Bw w w'
 else e=.returned (.tuple #[.slice none 0 0,.int .i64 5])∧Bw w w'
def xV(w:World)(nv:Value)(N:List T)(ch:T→Aj)(fit:T→Bool)(s i:Value)(wr:World):Prop:=
 ∃ (k:Nat) (q:Option Addr) (c:Nat),k≤N.length∧i=.int .i64 (k:Int)∧s=.slice q ((N.take k).map ch).length c∧wr.ownsRow w.heap.size 65 3 (.slice q ((N.take k).map ch).length c) ((N.take k).map ch).length (Mg ((N.take k).map ch))∧Bw w wr∧(N.take k).all fit=true∧Man.Bp wr (w.heap.size+1) nv N
theorem lI:∀ {L:List T} {a:T},textsE L=some a→a.length+2=rowLen L
 |[],a,h=>by simp only[textsE,BX] at h;subst h;rfl
 |x :: L,a,h=>by
  simp only[textsE] at h;cases h1:DJ x with
  |none=>rw[h1] at h;cases h
  |some u=>
   cases h2:textsE L with
   |none=>rw[h1,h2] at h;cases h
   |some c=>
    rw[h1,h2] at h;simp only[Cj,Ej,BX] at h;subst h;have ih:=lI h2;unfold DJ at h1;split at h1
    ·injection h1 with h1
     subst h1;unfold rowLen at ih ⊢;simp only[Au,Crc.BK,BL,Dq];omega
    ·cases h1
theorem tH(l:M)(h:(Dz l).2=0)(hs:rowLen (flat l)≤1000000000):(Dz l).1.length≤1000000000:=by
 unfold Dz at*;cases hp:Fh l with
 |none=>simp
 |some s=>
  unfold Fh at hp;split at hp
  ·cases ht:textsE (flat l) with
   |none=>rw[ht] at hp;cases hp
   |some a=>
    rw[ht] at hp;simp only[Ej,BX] at hp;have:=lI ht;subst hp;simp only[Au,Crc.BK];omega
  ·cases hp
theorem WI{l:M}:(BG l).isSome=true↔(Dz l).2=0∧(Dz l).1.length+4≤65535:=by
 unfold BG Dz;cases Fh l with
 |none=>simp
 |some s=>
  by_cases h:s.length+4≤65535
  ·simp only[Cj];rw[Ab h];exact⟨fun _=>⟨trivial,h⟩,fun _=>rfl⟩
  ·simp only[Cj];rw[Aa h];exact⟨fun e=>by simp at e,fun e=>absurd e.2 h⟩
theorem nX{l:M}(h:(BG l).isSome=true):(BG l).getD []=Crc.EW (Dz l).1:=by
 unfold BG Dz at*;cases hp:Fh l with
 |none=>rw[hp] at h;simp at h
 |some s=>
  rw[hp] at h;simp only[Cj] at h ⊢;by_cases hs:s.length+4≤65535
  ·rw[Ab hs];rfl
  ·rw[Aa hs] at h;simp at h
theorem awH{W W2:World}{base b2:Nat}{nv ov:Value}{N:List T}{n:Nat}{cs:List Value}(h:Man.Bp W base nv N)(ho:W.ownsRow b2 65 3 ov n cs)(hg:W.grownBy W2 ov.ownBlock):Man.Bp W2 base nv N:=
 Bh h (A7.of_grownBy (F:=fun k=>ov.ownBlock=some k) hg (fun k e=>e)) (fun g Sn f=>by
  obtain⟨c1,f1,e1⟩:=BQ h Sn;obtain⟨c2,f2,e2⟩:=BQ ho f;rw[e1] at e2;injection e2 with e2
  injection e2 with _ e2
  exact absurd e2 (by decide))
theorem sj{w wr W2 w1:World}{nv:Value}{N:List T}{ch:T→Aj}{fit:T→Bool}{k:Nat}{cl:List Aj}{ov:Value}{q':Option Addr}{cap':Nat}(c:Aj)(hk:k < N.length)(hb:Bw w wr)(Ah:wr.ownsRow w.heap.size 65 3 ov cl.length (Mg cl))(hW:Bw wr W2)(hg:W2.grownBy w1 ov.ownBlock)
  (ho:w1.ownsRow w.heap.size 65 3 (.slice q' (cl.length+1) cap') (cl.length+1) (Mg cl++[.string (bs c.name),.string (bs c.data),.bool c.gone]))(U8:(N.take (k+1)).map ch=cl++[c])(AY:(N.take (k+1)).all fit=true)(hn:Man.Bp wr (w.heap.size+1) nv N):
  xV w nv N ch fit (.slice q' (cl.length+1) cap') (.int .i64 ((k:Int)+1)) w1:=by
 have e:cl.length+1=((N.take (k+1)).map ch).length:=by rw[U8,Au];rfl
 refine⟨k+1,q',cap',by omega,by go_num,by rw[e],?_,?_,AY,?_⟩
 ·rw[←e,U8,yJ];exact ho
 ·exact(hb.trans (hW.mono hb.size)).grown hg (Ap hb.size hW.size) (fun j hj=>DC Ah hj)
 ·exact awH (C9 hn hW) (C9 Ah hW) hg
theorem ac4{w:World}{base m:Nat}{L:List (T×M)}{f:T→Nat}(h:Dy w base m L f)(hs:∀ x∈L,Cr x.2∧x.2.length≤1000000∧rowLen (flat x.2)≤1000000000)(hn:∀ x∈L,x.1.length≤1000)(hl:L.length≤100000):
  Calls prog 72 #[.map (some m)] w fun e w'=>Yt w L e w':=by
 obtain⟨i0,Ba,AQ,AU,AV⟩:=Du yK;have HK:=Hi (show Calls prog 149 #[.map (some m)] w fun e w'=>e=.returned (.func (.func 196) #[] #[.pointer (some ⟨w.heap.size,0,none⟩)])∧w'=w.alloc (.cells #[.map (some m)] 145) from awm (some m) w);obtain⟨kv,Jv,Xd⟩:=h.map;have Db:kv.length=L.length:=by rw[Jv.length_eq,Cf]
 have Yj:=Hi (awo Xd (by omega));have R3:(kv.map (·.1)).mergeSort (fun x y=>decide (x≤y))=CQ L:=mergeSort_of_perm (Dy.keys Jv);rw[Db,R3] at Yj;have HH:=Hi h;have HS:=Hi hs;have HN:=Hi hn;have Ee:(CQ L).length=L.length:=sJ L
 have wL:=Hi (fun t (ht:t∈CQ L)=>show ∃ x∈L,x.1=t∧rowOf L t=x.2 from by
  obtain⟨x,hx,rfl⟩:=Bz.1 (kL.1 ht);exact⟨x,hx,rfl,kW h.nodup hx⟩)
 clear h hs hn Jv Xd Db R3;go_enter func72,ntmps72;go_wp2_with fail;refine HK.mono ?_;rintro e w1⟨rfl,FY⟩;subst FY;go_wp2_with fail;refine Yj.mono ?_;rintro e w2⟨v,rfl,Ah,A8⟩;have IP:Man.Bp w2 (w.heap.size+1) v (CQ L):=by
  unfold Man.Bp;rw[JE,Ee];exact Ah
 obtain⟨q,c,rfl⟩:=Bg IP;have BI:=Hi IP;have Ag:=Hi A8;clear Ah IP A8 HK Yj;have hnI:((CQ L).length:Int)=(L.length:Int):=by rw[Ee]
 go_wp2_with fail
 go_loopw [2,13] (fun s i wr=>xV w (.slice q (CQ L).length c) (CQ L) (fun t=>Lu t (rowOf L t)) (fun t=>Mh (rowOf L t)) s i wr) (fun _ i _=>(CQ L).length -(intOf i).toNat)
 case atStart=>exact⟨0,none,0,AB _,rfl,rfl,by rw[GZ,List.map_nil,yI];exact EI _ _ _ _,Ag,rfl,BI⟩
 case round=>
  obtain⟨k,cq,cc,hk,rfl,rfl,Ah,hb,AY,Xj⟩:=hrel;have UI:=Hi Xj;have CZ:=Hi Ah;have HB:=Hi hb;have Fy:=Hi AY;clear Ah AY Xj Ag BI;by_cases hlt:k < (CQ L).length
  ·obtain⟨x,hx,Zo,Hm⟩:=wL _ (Ci hlt);obtain⟨a,Cu,c0⟩:=(Ea (c:=c) (UI.out)).index c k hlt;simp only[Ee] at Cu;have Sz:k < L.length:=by omega
   have RG:=Hi (show(Mh x.2=true→((CQ L).take (k+1)).all (fun t=>Mh (rowOf L t))=true)∧((CQ L).take (k+1)).map (fun t=>Lu t (rowOf L t))=((CQ L).take k).map (fun t=>Lu t (rowOf L t))++[Lu x.1 x.2] from by
    rw[Cw hlt,CF,List.all_append,Fy.out];constructor
    ·intro e;simp[Hm,e]
    ·simp[Hm,Zo])
   have vg:=Hi (show Mh x.2=false→¬ OH L=true from fun e h=>by
    have:=Nz.1 h _ (Ci hlt);rw[Hm,e] at this;cases this)
   obtain⟨cl,BH⟩:∃ cl,((CQ L).take k).map (fun t=>Lu t (rowOf L t))=cl:=⟨_,rfl⟩;have jg:cl.length=k:=(by rw[←BH,Cf,AL];omega);have Ev:=Hi jg;rw[BH] at CZ RG ⊢;have KQ:=((HH.below HB).iE hx (by have:=HN x hx;unfold maxLen;omega));obtain⟨v,NZ,Ah,GR⟩:=(HH.below HB).RU x hx;obtain⟨q2,c2,rfl,CV,Gf⟩:=Es Ah;have c1:wr.cell? ⟨f x.1,0,none⟩=some (.slice q2 x.2.length c2):=cr NZ;obtain⟨Qi,Cz,Vx⟩:=HS x hx;rw[←Zo] at c0;clear BH hb Hm GR Zo;have atM:cl.length≤100000:=(by omega);clear jg;have RI:=Hi (AO.CG Ah);obtain⟨t,l⟩:=x;simp only at*;generalize f t=ft at*;by_cases hz:l=[]
   ·have Xw:((l.length:Int) == 0)=true:=(by rw[hz];rfl);have J2:=Hi (show Lu t l=⟨t,[],true⟩ from Ab hz);have Y2:=Hi (RG.1 (by rw[hz];rfl));go_wp2_with (at_builtin;refine wpList_append_own_at _ rfl _ _ 24 rfl w.heap.size 65 i0 _ 3 40 underlying24 Ba AQ AU AV rfl (by decide) _ cl.length _ rfl (CZ.alloc _) ⟨wr.heap.size,0,none⟩ 1 1 [.string (bs t),.string { data:=#[] },.bool true] rfl rfl (by intro j u hj;rw[add_plain,DF];exact(Dn▸hj)) (by simp[Value.oneCell']) (by unfold maxLen;omega) (by omega) (by have:=HB.size;simp;omega) ?_;intro v' w1 BB Az _ hat;obtain⟨g',cap',rfl⟩:=ownsRow_succ BB;have HO:=Hi BB;have HG:=Hi Az;clear BB Az hat);have CU:=Hi (sj ⟨t,[],true⟩ hlt HB CZ (Aw wr _) HG HO (by rw[←J2.out];exact RG.2) Y2 UI);go_roundw
    case rel=>exact CU.out
    case measure=>
     show(CQ L).length -((k:Int)+1).toNat < (CQ L).length -((k:Int)).toNat
     omega
   ·have Xw:((l.length:Int) == 0)=false:=H9.2 (fun e=>hz (Ld.1 (by omega)));have FK:=Hi (aly (cap:=c2) RI Qi Cz Vx);have fJ:=Hi (show Mh l=(BG l).isSome from by unfold Mh;simp[hz]);have J2:=Hi (show Lu t l=⟨t,(BG l).getD [],false⟩ from Aa hz);by_cases BO:(BG l).isSome=true
    ·have Y2:=Hi (RG.1 (by rw[fJ.out];exact BO));obtain⟨he,hlen⟩:=WI.1 BO;have Tn:=Hi (nX BO);rw[he] at FK;generalize (Dz l).1=s at*;have Sr:decide (65535 < (s.length:Int)+4)=false:=Pp (by omega);have JA:IntKind.i64.wrap ((s.length:Int)+4)=(s.length:Int)+4:=Ei _ (by omega);have Yi:=Hi (fun W=>dX s W (by omega));clear he BO hlen;go_wp2_with fail;refine FK.mono ?_;rintro e w3⟨rfl,Ak⟩;have Am:=Hi Ak;clear Ak;go_wp2_with fail;refine(Yi _).mono ?_;rintro e w4⟨rfl,Ar⟩;have AZ:=Hi (Am.trans (Ar.mono Am.size));have Wq:=Hi (C9 CZ AZ);have abj:=AZ.size;have rH:=HB.size;clear Ar;go_wp2_with (at_builtin;refine wpList_append_own_at _ rfl _ _ 24 rfl w.heap.size 65 i0 _ 3 40 underlying24 Ba AQ AU AV rfl (by decide) _ cl.length _ rfl (Wq.alloc _) ⟨w4.heap.size,0,none⟩ 1 1 [.string (bs t),.string (bs (Crc.EW s)),.bool false] rfl rfl (by intro j u hj;rw[add_plain,DF];exact(Dn▸hj)) (by simp[Value.oneCell']) (by unfold maxLen;omega) (by omega) (by simp;omega) ?_;intro v' w1 BB Az _ hat;obtain⟨g',cap',rfl⟩:=ownsRow_succ BB;have HO:=Hi BB;have HG:=Hi Az;clear BB Az hat);have CU:=Hi (sj ⟨t,Crc.EW s,false⟩ hlt HB CZ (AZ.trans ((Aw w4 _).mono AZ.size)) HG HO (by rw[←Tn.out,←J2.out];exact RG.2) Y2 UI);go_roundw
     case rel=>exact CU.out
     case measure=>
      show(CQ L).length -((k:Int)+1).toNat < (CQ L).length -((k:Int)).toNat
      omega
    ·have Eb:=Hi (vg (by rw[fJ.out];simpa using BO));by_cases he:(Dz l).2=0
     ·have hlen:¬ (Dz l).1.length+4≤65535:=fun h=>BO (WI.2 ⟨he,h⟩)
      rw[he] at FK;have Od:=tH l he Vx;generalize (Dz l).1=s at*;have Sr:65535 < (s.length:Int)+4:=(by omega);have JA:IntKind.i64.wrap ((s.length:Int)+4)=(s.length:Int)+4:=Ei _ (by omega);clear he BO;go_wp2_with fail;refine FK.mono ?_;rintro e w3⟨rfl,Ak⟩;have Am:=Hi (HB.trans (Ak.mono HB.size));clear Ak;go_wp2_with fail;go_ret2;unfold Yt;rw[Aa Eb.out];exact⟨rfl,Am⟩
     ·have Bq:((Dz l).2 == 0)=false:=H9.2 he;generalize Dz l=V at*;clear BO;go_wp2_with fail;refine FK.mono ?_;rintro e w3⟨rfl,Ak⟩;have Am:=Hi (HB.trans (Ak.mono HB.size));clear Ak;go_wp2_with fail;go_ret2;unfold Yt;rw[Aa Eb.out];exact⟨rfl,Am⟩
  ·obtain rfl:k=(CQ L).length:=(by omega);have IJ:OH L=true:=by
    have:=Fy.out;rw[Gn (Ac _)] at this;exact this
   have hE:=CZ.out;rw[Gn (Ac _)] at hE;have HE:=Hi (show wr.ownsRow w.heap.size 65 3 (.slice cq (K7 L).length cc) (K7 L).length (Mg (K7 L)) from hE);have BH:(((CQ L).take (CQ L).length).map fun t=>Lu t (rowOf L t)).length=(K7 L).length:=(by rw[Gn (Ac _)];rfl);rw[BH];clear hE hb BH;go_wp2_with fail;go_ret2;unfold Yt;rw[Ab IJ];exact⟨cq,cc,rfl,HE,HB⟩
theorem azA{w:World}{a:Option Addr}{l:List T}(cap:Nat)(hl:Cg w a l)(k:T)(hlen:l.length≤1000000000):
  Calls prog 136 #[.slice a l.length cap,.string (bs k)] w fun e w'=>∃ i:Int,e=.returned (.int .i64 i)∧(decide (0≤i))=decide (k∈l)∧Bw w w':=by
 have HL:=Hi hl;clear hl;go_enter func136,ntmps136;go_wp2_with fail
 go_loopw [5,8] (fun _ i wr=>∃ n:Nat,n≤l.length∧i=.int .i64 n∧Bw w wr∧k∉l.take n) (fun _ i _=>l.length -(intOf i).toNat)
 case atStart=>exact⟨0,AB _,rfl,Af _ _,by simp⟩
 case round=>
  obtain⟨n,hn,rfl,hb,CO⟩:=hrel;have Eb:=Hi CO;have HB:=Hi hb;clear CO;by_cases hlt:n < l.length
  ·obtain⟨q,Cu,c0⟩:=(HL.below hb).index cap n hlt;have KD:=Hi (Ci hlt)
   have EL:=Hi (show k≠l[n]→k∉l.take (n+1) from fun h=>by
    rw[Cw hlt,Fp];rintro(e|e)
    ·exact Eb e
    ·exact h (by simpa using e))
   generalize l[n]=x at*;clear hb;by_cases hx:k=x
   ·subst hx;go_wp2_with fail;go_ret;exact⟨_,rfl,by simp[KD.out],HB⟩
   ·have Ze:(k == x)=false:=H9.2 hx;have HN:=Hi (EL hx);clear EL KD;go_wp2_with fail;go_roundw
    case rel=>exact⟨n+1,by omega,by go_num,HB,HN⟩
    case measure=>simp[intOf];omega
  ·obtain rfl:n=l.length:=(by omega);have CO:k∉l:=by
    have:=Eb.out;rwa[CY] at this
   clear hb;go_wp2_with fail;go_ret;exact⟨_,rfl,by simp[CO],HB⟩
theorem ad6{w:World}{a:Option Addr}{l:List T}(cap:Nat)(hl:Cg w a l)(k:T)(hlen:l.length≤1000000000):
  Calls prog 60 #[.slice a l.length cap,.string (bs k)] w fun e w'=>e=.returned (.bool (decide (k∈l)))∧Bw w w':=by
 have HI:=Hi (azA cap hl k hlen);clear hl;generalize decide (k∈l)=d at*;go_enter func60,ntmps60;go_wp2_with fail;refine HI.mono ?_;rintro e w1⟨i,rfl,hd,hb⟩;have HB:=Hi hb;have HD:=Hi hd;clear hb hd;go_wp2_with fail;go_ret;exact⟨by rw[←HD.out];rfl,HB⟩
end Mem
namespace Dep
open Go.RowKit Go.Maps
open Wal Fil Man Prs Kp Cm Hex Sha Mem
theorem og(k:T)(w:World)(hk:k.length≤1000000):Calls prog 80 #[.string (bs k)] w fun e w'=>e=.returned (.string (bs (A9.nm k)))∧Bw w w':=by
 have hm:({ data:=#[117] }:ByteArray)=bs [117]:=rfl;have hcut:∀ W,(Instr.slice 9 (.string (bs (Eh k))) none (some (.int .i64 8)) none).run prog W=.ok (.string (bs ((Eh k).take 8))) W:=fun W=>Ny prog W 9 underlying9 (Eh k) 8 (by rw[T9];decide)
 have HE:=Hi (show A9.nm k=[117]++EA ((Eh k).take 8) from rfl);have hl:(EA ((Eh k).take 8)).length=16:=by rw[YR,AL,T9];rfl
 have HS:=Hi (amG k hk w);have HH:=Hi (fun(W:World)=>aio ((Eh k).take 8) W (by rw[AL,T9];decide));rw[HE.out];generalize Eh k=s at*;generalize EA (s.take 8)=h at*;go_enter func80,ntmps80;go_wp2_with fail;refine HS.mono ?_;rintro e w1⟨rfl,Ad⟩;have HB1:=Hi Ad;clear Ad;go_wp2_with fail;refine(HH _).mono ?_;rintro e w2⟨rfl,A8⟩;have Ag:=Hi (HB1.trans (A8.mono HB1.size));clear A8;go_wp2_with fail;go_ret;exact⟨rfl,Ag⟩
theorem ar8(name:T)(w:World)(hn:name.length≤1000000):Calls prog 113 #[.string (bs name)] w fun e w'=>e=.returned (.bool (A9.ours name))∧Bw w w':=by
 show Calls _ _ _ _ fun e w'=>e=.returned (.bool (MJ 117 name))∧_
 by_cases h1:name.length=17
 ·have zN:(name.length:Int)=17:=by omega
  have hlt:0 < name.length:=by omega
  have jF:(0:Int) < (name.length:Int):=by omega
  have hd:name.head?=some name[0]:=by
   cases name with
   |nil=>simp at h1
   |cons a l=>rfl
  by_cases h2:name[0]=117
  ·have hR:=Hi (alk (c:=117) h1 (by rw[hd,h2]));have hcut:∀ W,(Instr.slice 9 (.string (bs name)) (some (.int .i64 1)) none none).run prog W=.ok (.string (bs (name.drop 1))) W:=fun W=>LQ prog W 9 underlying9 name 1 (by omega)
   have iK:(name[0].toNat:Int)=117:=(by rw[h2];rfl);have HU:=Hi (anC (name.drop 1) w (by rw[Ce];omega));have HV:=Hi (anz (name.drop 1));rw[hR.out,←HV.out];generalize Pm (name.drop 1)=V at*;clear hd h2 HV hR;generalize name.drop 1=dn at*;go_enter func113,ntmps113;go_wp2_with fail;refine HU.mono ?_;rintro e w1⟨rfl,hb⟩;have HB:=Hi hb;clear hb;go_wp2_with fail;go_ret;exact⟨by simp;rfl,HB⟩
  ·have hR:Hid (MJ 117 name=false):=Hi (sV (fun h=>h2 (by have:=h.2;rw[hd] at this;injection this)));have iK:¬ (name[0].toNat:Int)=117:=fun e=>h2 (by apply UInt8.toNat_inj.1;have h9:(117:UInt8).toNat=117:=rfl;rw[h9];omega)
   rw[hR.out];clear hd h2;go_enter func113,ntmps113;go_wp2_with fail;go_ret;exact⟨rfl,Af _ _⟩
 ·have zN:¬ (name.length:Int)=17:=by omega
  have hR:Hid (MJ 117 name=false):=Hi (sV (fun h=>h1 h.1));rw[hR.out];go_enter func113,ntmps113;go_wp2_with fail;go_ret;exact⟨rfl,Af _ _⟩
end Dep
namespace Man
open Go.RowKit Go.Maps Go.Sort Go.Shelf Go.Lib
open Wal Fil
theorem za{w:World}{base:Nat}{v:Value}{l:List (List UInt8)}(h:Bp w base v l)(hl:l.length≤1000000):
  Calls prog 42 #[v] w fun e w'=>∃ v',e=.returned v'∧Bp w' w.heap.size v' (AX l)∧Bw w w':=by
 have HC:=Hi (aqB h hl);have cO:v.oneCell'=true:=by obtain⟨q,cap,rfl⟩:=Bg h;rfl
 clear h;go_enter func42,ntmps42;go_wp2_with fail;refine HC.mono ?_;rintro e w1⟨v1,rfl,Dj,DI,Ad⟩;rcases Dj.parts with⟨rfl,rfl⟩|⟨g,cap,rfl,hg,jB,QX,Qb⟩
 ·have HB1:=Hi Ad;clear Dj DI Ad;go_wp2_with fail;refine(AnyM.slices_Sort_string_none bq none 0 _).mono ?_;rintro e w2⟨rfl,rfl⟩;go_wp2_with fail;refine(Any.slices_Compact_string_empty su none 0 _).mono ?_;rintro e w3⟨rfl,rfl⟩;go_wp2_with fail;go_ret;exact⟨_,rfl,by unfold Bp;rw[show AX []=[] by simp[AX,Lib.compact,Lib.compactUpTo],JE];exact EI _ _ _ _,HB1⟩
 ·have SE:=Dj;unfold Bp at SE;rw[JE] at SE;obtain⟨g2,cap2,e2,_,_,_,_,_,hH⟩:=holds_of_ownsRow SE (by simp);cases e2;have DN:=Hi SE;have HB1:=Hi Ad;have HH:=Hi hH;clear Dj SE DI Ad hH;go_wp2_with fail;refine(AnyM.slices_Sort_string bq g 0 cap l _ HH Qb (by omega)).mono ?_;rintro e w2⟨rfl,n,os,rfl⟩;have Cz:(l.mergeSort fun x y=>decide (x≤y)).length=l.length:=by simp
  have Dc:=ownsRow_putRow (q:=n) DN Cz (Ac _);have A8:=below_putRow (q:=n) (enc:=encStr) (d:=(l.mergeSort fun x y=>decide (x≤y)).toArray) HB1 hg;have KV:=Bh Dc (ub (below_grow (Af _ _) (Ac _) os)) (fun _ _ f=>f);have Ak:=below_grow A8 A8.size os;clear Dc A8;rw[Gn (by rw[Cz];omega)] at KV;obtain⟨S,TT⟩:∃ S,(l.mergeSort fun x y=>decide (x≤y))=S:=⟨_,rfl⟩;have hR:Hid (AX l=Lib.compact S):=Hi (by unfold AX;rw[TT]);rw[TT] at KV Ak Cz ⊢;generalize Go.Sort.grow (Go.Sort.putRow encStr (Sort.ahead w1 n) g 0 S.toArray) os=w3 at*;obtain⟨g3,nU,e3,_,_,_,_,_,YH⟩:=holds_of_ownsRow KV (by simp);cases e3;have YO:=Any.slices_Compact_string su g 0 cap S w3 YH (by omega) (by omega);rw[←Cz] at KV;rw[show(ac6.f 194)=116 from rfl,Cz] at YO;have vK:=Hi YO;have NL:=Hi KV;have Am:=Hi Ak;have HH3:=Hi YH;clear KV Ak YH YO;go_wp2_with fail;refine vK.mono ?_;rintro e w4⟨rfl,q,rfl⟩;rw[←Cz];have BH:=compact_length_le S;have Z9:=ownsRow_putRow (q:=q) (k:=(Lib.compact S).length) NL (ys:=Lib.compact S++List.replicate (S.length -(Lib.compact S).length) []) (by simp;omega) BH;have Ar:=below_putRow (q:=q) (enc:=encStr) (d:=(Lib.compact S++List.replicate (S.length -(Lib.compact S).length) []).toArray) Am hg;rw[Iz rfl] at Z9;generalize Go.Sort.putRow encStr (Sort.ahead w3 q) g 0 (Lib.compact S++List.replicate (S.length -(Lib.compact S).length) []).toArray=w4 at*;have wV:=Hi Z9;have AZ:=Hi Ar;clear Z9 Ar;go_wp2_with fail;go_ret;refine⟨_,rfl,?_,AZ⟩;unfold Bp;rw[hR.out,JE];exact wV.out
end Man
namespace Dep
open Go.RowKit Go.Maps
open Wal Fil Man Prs Kp Cm Hex Sha Mem
theorem ar1(name data:T):A9.Df name data=if(Crc.Er data).2=0 then(GN (Crc.Er data).1).bind fun l=>if l≠[]∧(Dx l).length=l.length∧∀ p∈l,A9.nm p.1=name∧rowOk p=true then some l else none else none:=by
 rfl
theorem alZ{s:T}{l:List T}(h:CW s=some l):l.length≤65535:=by
 unfold CW at h;split at h
 ·cases h
 ·cases h1:readTs (Crc.val (s.take 2)) (s.drop 2) with
  |none=>rw[h1] at h;cases h
  |some r=>
   rw[h1] at h;simp only[Cj] at h;split at h
   ·simp only[BX] at h;obtain⟨e1,a,e2,e3⟩:=acB (l:=r.1) (r:=r.2) h1;have hv:=Crc.Ji (s.take 2);have hl:(s.take 2).length≤2:=(by rw[AL];omega);have hp:256 ^ (s.take 2).length≤256 ^ 2:=Nat.pow_le_pow_right (by decide) hl;have Je:Crc.val (s.take 2) < 65536:=DK hv hp;rw[←h,e1];omega
   ·cases h
def adD(w:World)(q:Option Addr)(cap:Nat)(l:M)(name:T)(i:Value)(wr:World):Prop:=∃ k:Nat,k≤l.length∧i=.int .i64 k∧Bw w wr∧Bo wr w.heap.size (.slice q l.length cap) l∧∀ p∈l.take k,A9.nm p.1=name∧rowOk p=true
theorem ar9(name data:T)(w:World)(hd:data.length≤1000000):Calls prog 162 #[.string (bs name),.string (bs data)] w fun e w'=>Mem.Lr w (A9.Df name data) e w':=by
 have PE:=Hi (ar1 name data);have HO:=Hi (alh data w (by omega));have Cz:(Crc.Er data).1.length≤1000000:=by
  by_cases h:(Crc.Er data).2=0
  ·have:=congrArg List.length (Crc.acf h);rw[Crc.Rk] at this;omega
  ·unfold Crc.Er at h ⊢;split
   ·simp
   ·split
    ·rename_i h1 h2
     rw[Aa h1,Ab h2] at h;exact absurd rfl h
    ·simp
 generalize (Crc.Er data).1=s at*;generalize (Crc.Er data).2=c at*;have HG:=Hi (fun(W:World)=>alv s W (by omega));by_cases hc:c=0
 ·subst hc;cases hg:GN s with
  |none=>
   have hR:Hid (A9.Df name data=none):=Hi (by rw[PE.out,Ab rfl,hg];rfl);have CS:=Hi (show ∀ W,Calls prog 194 #[.string (bs s)] W fun e w'=>e=.returned (.tuple #[.slice none 0 0,.int .i64 7])∧Bw W w' from fun W=>by have:=HG W;unfold UW at this;rw[hg] at this;exact this);clear HG PE hg;go_enter func162,ntmps162;go_wp2_with fail;refine HO.mono ?_;rintro e w1⟨rfl,Ad⟩;have HB1:=Hi Ad;clear Ad;go_wp2_with fail;refine(CS _).mono ?_;rintro e w2⟨rfl,A8⟩;have Ag:=Hi (HB1.trans (A8.mono HB1.size));clear A8;go_wp2_with fail;go_ret2;exact Mem.La hR.out rfl Ag.out
  |some l=>
   have CS:=Hi (show ∀ W,Calls prog 194 #[.string (bs s)] W fun e w'=>∃ v,e=.returned (.tuple #[v,.int .i64 0])∧Bo w' W.heap.size v l∧Bw W w' from fun W=>by have:=HG W;unfold UW at this;rw[hg] at this;exact this);have Y5:=Hi (show A9.Df name data=if l≠[]∧(Dx l).length=l.length∧∀ p∈l,A9.nm p.1=name∧rowOk p=true then some l else none from by rw[PE.out,Ab rfl,hg];rfl);obtain⟨hl,Nq⟩:=zG hg;have QP:=Hi Nq;clear HG PE hg Nq;by_cases hz:l=[]
   ·have hR:Hid (A9.Df name data=none):=Hi (by rw[Y5.out,Aa (fun h=>h.1 hz)]);have AQ:(l.length:Int)=0:=(by rw[hz];rfl);clear hz;go_enter func162,ntmps162;go_wp2_with fail;refine HO.mono ?_;rintro e w1⟨rfl,Ad⟩;have HB1:=Hi Ad;clear Ad;go_wp2_with fail;refine(CS _).mono ?_;rintro e w2⟨v,rfl,Ah,A8⟩;obtain⟨q,cap,rfl,Gz,BH⟩:=Es Ah;have Ag:=Hi (HB1.trans (A8.mono HB1.size));clear A8 Ah;go_wp2_with fail;go_ret2;exact Mem.La hR.out rfl Ag.out
   ·have AQ:¬ (l.length:Int)=0:=fun e=>hz (Ld.1 (by omega))
    have hzb:((l.length:Int) == 0)=false:=H9.2 AQ;by_cases hk:(Dx l).length=l.length
    ·have fU:=Hi (show A9.Df name data=if ∀ p∈l,A9.nm p.1=name∧rowOk p=true then some l else none from by
      rw[Y5.out];by_cases h:∀ p∈l,A9.nm p.1=name∧rowOk p=true
      ·rw[Ab ⟨hz,hk,h⟩,Ab h]
      ·rw[Aa (fun x=>h x.2.2),Aa h])
     have bR:((Dx l).length:Int)=(l.length:Int):=(by omega);go_enter func162,ntmps162;go_wp2_with fail;refine HO.mono ?_;rintro e w1⟨rfl,Ad⟩;have HB1:=Hi Ad;clear Ad;go_wp2_with fail;refine(CS _).mono ?_;rintro e w2⟨v,rfl,Ah,A8⟩;obtain⟨q,cap,rfl,Gz,BH⟩:=Es Ah;have Ag:=Hi (HB1.trans (A8.mono HB1.size));have CZ:=Hi (E9 Ah HB1.size);have Jm:=Hi (dL (w:=w2) (AO.CG Ah) Gz (by omega));clear A8 Ah;go_wp2_with fail;refine Jm.mono ?_;rintro e w3⟨kv,rfl,Ch,Ak⟩;obtain⟨kq,kc,rfl⟩:=Bg Ch;have JR:=Hi (C9 CZ Ak);have Am:=Hi (Ag.trans (Ak.mono Ag.size));clear Ak Ch;go_wp2_with fail
     go_loopw [10,42] (fun _ i wr=>adD w q cap l name i wr) (fun _ i _=>l.length -(intOf i).toNat)
     case atStart=>exact⟨0,AB _,rfl,Am,JR,fun p h=>by simp at h⟩
     case round=>
      obtain⟨k,Db,rfl,hb,hr,AY⟩:=hrel;have HB:=Hi hb;have HR:=Hi hr;have HA:=Hi AY;clear AY Am JR hb;by_cases hlt:k < l.length
      ·obtain⟨a,Cu,ha,-⟩:=(AO.CG hr).index cap k hlt;have c0:=ha.key;have c1:=ha.val;have hsk:=(QP _ (Ci hlt)).1;have Zk:=(QP _ (Ci hlt)).2;have HT:=Hi (an9 (P:=fun p=>A9.nm p.1=name∧rowOk p=true) hlt HA)
       have HF:=Hi (show ¬ (A9.nm l[k].1=name∧rowOk l[k]=true)→A9.Df name data=none from fun hne=>by
        rw[fU.out,Aa (fun h=>hne (h _ (Ci hlt)))])
       generalize l[k]=x at*;have HN:=Hi (fun(W:World)=>og x.1 W (by omega));have FD:=Hi (fun(W:World)=>kT x.2 W (by omega));have F3:=Hi (show A9.nm x.1=name∧rowOk x=true→∀ p∈l.take (k+1),A9.nm p.1=name∧rowOk p=true from HT.out);clear ha hr HT;generalize A9.nm x.1=nx at*;cases ED:CW x.2 with
       |none=>
        have Yf:=Hi (show ∀ W,Calls prog 178 #[.string (bs x.2)] W fun e w'=>e=.returned (.tuple #[.slice none 0 0,.int .i64 7])∧Bw W w' from fun W=>by have:=FD W;unfold Go.Proofs.YtmbbhdebddbhoaaGreat.Lr at this;rw[ED] at this;exact this);have hR:=Hi (HF (fun h=>by have:=h.2;unfold rowOk at this;rw[ED] at this;cases this));clear HF F3 FD ED HN;go_wp2_with fail;refine(Yf _).mono ?_;rintro e w4⟨rfl,Ar⟩;have AZ:=Hi ((HB.alloc HB.size _).trans (Ar.mono (by have:=HB.size;rw[Aq];omega)));clear Ar;go_wp2_with fail;go_ret2;exact Mem.La hR.out rfl AZ.out
       |some kr=>
        have Yf:=Hi (show ∀ W,Calls prog 178 #[.string (bs x.2)] W fun e w'=>∃ v,e=.returned (.tuple #[v,.int .i64 0])∧Man.Bp w' 0 v kr∧Bw W w' from fun W=>(FD W).mono fun e w' h=>by
         unfold Go.Proofs.YtmbbhdebddbhoaaGreat.Lr at h;rw[ED] at h;obtain⟨v,h1,h2,h3,_⟩:=h;exact⟨v,h1,h2,h3⟩)
        have Vo:=alZ ED;have MX:=Hi (show rowOk x=decide (AX kr=kr) from by unfold rowOk;rw[ED]);have ajo:=AJ wr (.cells #[.string (bs x.1),.string (bs x.2)] 75);have HNK:=Hi ajo;clear FD ED ajo;go_wp2_with fail;refine(Yf _).mono ?_;rintro e w4⟨kv4,rfl,aaE,Ar⟩;obtain⟨kq,kc,rfl⟩:=Bg aaE;have ajp:=(Ar.block _ (Ai HNK)).trans HNK.out;have d0:w4.cell? ⟨wr.heap.size,0,none⟩=some (.string (bs x.1)):=cr ajp;have Ma:=Hi (C9 (HR.alloc _) Ar);have AZ:=Hi ((HB.alloc HB.size _).trans (Ar.mono (by have:=HB.size;rw[Aq];omega)));have aoK:=Hi aaE;clear Ar ajp aaE;go_wp2_with fail;refine(HN _).mono ?_;rintro e w5⟨rfl,Bf⟩;have NN:=Hi (C9 Ma Bf);have Ck:=Hi (AZ.trans (Bf.mono AZ.size));have aaF:=C9 aoK Bf;have Ex:=Hi (za aaF (by omega));have aoL:=Hi aaF;clear Bf aaF;by_cases heq:nx=name
        ·have au4:(nx == name)=true:=beq_iff_eq.2 heq;go_wp2_with fail;refine Ex.mono ?_;rintro e w6⟨rv,rfl,hrv,Cx⟩;obtain⟨rq,rc,rfl⟩:=Bg hrv;have Gi:=Un kr;have vM:=Hi (arB (C9 aoL Cx) hrv (by omega) (by omega));have Lj:=Hi (C9 NN Cx);have Fz:=Hi (Ck.trans (Cx.mono Ck.size));clear Cx hrv;go_wp2_with fail;refine vM.mono ?_;rintro e w7⟨rfl,Ez⟩;have HR7:=Hi (C9 Lj Ez);have En:=Hi (Fz.trans (Ez.mono Fz.size));clear Ez;by_cases dx:kr=AX kr
         ·have jk:decide (kr=AX kr)=true:=Kr dx;have CU:=Hi (show adD w q cap l name (.int .i64 ((k:Int)+1)) w7 from⟨k+1,by omega,by go_num,En,HR7,F3 ⟨heq,by rw[MX.out];exact Kr dx.symm⟩⟩);rw[jk];clear dx jk F3 HF MX;go_wp2_with fail;go_roundw
          case rel=>exact CU.out
          case measure=>
           show l.length -((k:Int)+1).toNat < l.length -((k:Int)).toNat
           omega
         ·have jk:decide (kr=AX kr)=false:=Pp dx;have hR:=Hi (HF (fun h=>dx (by have:=h.2;rw[MX.out] at this;exact(QC this).symm)));rw[jk];clear dx jk F3 HF MX;go_wp2_with fail;go_ret2;exact Mem.La hR.out rfl En.out
        ·have au4:(nx == name)=false:=H9.2 heq;have hR:=Hi (HF (fun h=>heq h.1));clear F3 HF MX;go_wp2_with fail;go_ret2;exact Mem.La hR.out rfl Ck.out
      ·obtain rfl:k=l.length:=by omega
       have hR:Hid (A9.Df name data=some l):=Hi (by
        rw[fU.out,Ab];have:=HA.out;rwa[CY] at this)
       clear hr;go_wp2_with fail;go_ret2;exact Mem.kX hR.out rfl HR Gz HB.out
    ·have hR:Hid (A9.Df name data=none):=Hi (by rw[Y5.out,Aa (fun h=>hk h.2.1)]);have bR:¬ ((Dx l).length:Int)=(l.length:Int):=(by omega);have Kg:(((Dx l).length:Int) != (l.length:Int))=true:=bne_iff_ne.2 bR;go_enter func162,ntmps162;go_wp2_with fail;refine HO.mono ?_;rintro e w1⟨rfl,Ad⟩;have HB1:=Hi Ad;clear Ad;go_wp2_with fail;refine(CS _).mono ?_;rintro e w2⟨v,rfl,Ah,A8⟩;obtain⟨q,cap,rfl,Gz,BH⟩:=Es Ah;have Ag:=Hi (HB1.trans (A8.mono HB1.size));have Jm:=Hi (dL (w:=w2) (AO.CG Ah) Gz (by omega));clear A8 Ah;go_wp2_with fail;refine Jm.mono ?_;rintro e w3⟨kv,rfl,Ch,Ak⟩;obtain⟨kq,kc,rfl⟩:=Bg Ch;have Am:=Hi (Ag.trans (Ak.mono Ag.size));clear Ak Ch;go_wp2_with fail;go_ret2;exact Mem.La hR.out rfl Am.out
 ·have hR:Hid (A9.Df name data=none):=Hi (by rw[PE.out,Aa hc]);clear HG PE;go_enter func162,ntmps162;go_wp2_with fail;refine HO.mono ?_;rintro e w1⟨rfl,Ad⟩;have HB1:=Hi Ad;clear Ad;go_wp2_with fail;go_ret2;exact Mem.La hR.out rfl HB1.out
end Dep
namespace Dep
open Go.RowKit Go.Maps
open Wal Fil Man Prs Kp Cm Hex Sha Mem
def GM(w:World)(p y:Nat):Prop:=w.heap[p]?=some (.cells #[.pointer (some ⟨y,0,none⟩)] 136)
theorem GM.cell{w:World}{p y:Nat}(h:GM w p y):w.cell? ⟨p,0,none⟩=some (.pointer (some ⟨y,0,none⟩)):=by
 rw[BA _ _ _ _ _ _ h];rfl
theorem GM.lt{w:World}{p y:Nat}(h:GM w p y):p < w.heap.size:=Ai h
theorem GM.below{w w':World}{p y:Nat}(h:GM w p y)(hb:Bw w w'):GM w' p y:=(hb.block p (Ai h)).trans h
theorem afV(y:Nat)(w:World):Calls prog 20 #[.pointer (some ⟨y,0,none⟩)] w fun e w'=>∃ p,e=.returned (.tuple #[.pointer (some ⟨p,0,none⟩),.int .i64 0])∧GM w' p y∧w.heap.size≤p∧Bw w w':=by
 go_enter func20,ntmps20;go_wp2_with fail;go_ret2;exact⟨_,rfl,AJ w _,Ac _,Aw w _⟩
theorem oh{w:World}{p y:Nat}{A:M}(hm:GM w p y)(hg:Man.ND w y A)(name:T)(hn:name.length≤1000):Calls prog 81 #[.pointer (some ⟨p,0,none⟩),.string (bs name)] w fun e w'=>OB A9 w A name e w':=by
 have c:=hm.cell;have HG:=Hi (hg.gets w (Af _ _) name hn);have hs:=hg.small name;have HF:=Hi (show fileOf A9 A name=(Fil.get A name).bind (A9.Df name) from rfl);clear hg hm;cases hx:Fil.get A name with
 |none=>
  rw[hx] at HG HF;have hF:fileOf A9 A name=none:=HF.out;have HP:=Hi (show ∀ W',Bw w W'→OB A9 w A name (.returned (.tuple #[.slice none 0 0,.bool false,.bool false])) W' from fun W' hb=>⟨none,0,by rw[hF,hx];rfl,by rw[hF];exact VN _ _,fun _=>rfl,hb⟩);clear hx HF hF hs;go_enter func81,ntmps81;go_wp2_with fail;refine HG.mono ?_;rintro e w1⟨rfl,Ad⟩;have HB1:=Hi Ad;clear Ad;go_wp2_with fail;exact El (v:=.tuple #[.slice none 0 0,.bool false,.bool false]) (by simp[results,results81,go_sem]) rfl (HP _ HB1)
 |some d=>
  rw[hx] at HG HF;have hF:fileOf A9 A name=A9.Df name d:=HF.out;have K9:d.length≤1000000:=by rw[hx] at hs;exact hs
  have HR:=Hi (fun(W:World)=>ar9 name d W K9);have PD:=Hi (show(Fil.get A name).isSome=true from by rw[hx];rfl);clear HF hs hx;cases hr:A9.Df name d with
  |none=>
   rw[hr] at HR hF;have HP:=Hi (show ∀ W',Bw w W'→OB A9 w A name (.returned (.tuple #[.slice none 0 0,.bool true,.bool false])) W' from fun W' hb=>⟨none,0,by rw[hF,PD.out];rfl,by rw[hF];exact VN _ _,fun _=>rfl,hb⟩);clear hF hr PD;go_enter func81,ntmps81;go_wp2_with fail;refine HG.mono ?_;rintro e w1⟨rfl,Ad⟩;have HB1:=Hi Ad;clear Ad;go_wp2_with fail;refine(HR _).mono ?_;rintro e w2⟨rfl,A8⟩;have Ag:=Hi (HB1.trans (A8.mono HB1.size));clear A8;go_wp2_with fail;exact El (v:=.tuple #[.slice none 0 0,.bool true,.bool false]) (by simp[results,results81,go_sem]) rfl (HP _ Ag)
  |some l=>
   rw[hr] at HR hF;have HP:=Hi (show ∀ (W':World) (q:Option Addr) (cap:Nat),Bo W' w.heap.size (.slice q l.length cap) l→(q=none→cap=0)→Bw w W'→OB A9 w A name (.returned (.tuple #[.slice q l.length cap,.bool true,.bool true])) W' from fun W' q cap h1 h2 hb=>⟨q,cap,by rw[hF,PD.out];rfl,by rw[hF];exact h1,h2,hb⟩);clear hF hr PD;go_enter func81,ntmps81;go_wp2_with fail;refine HG.mono ?_;rintro e w1⟨rfl,Ad⟩;have HB1:=Hi Ad;clear Ad;go_wp2_with fail;refine(HR _).mono ?_;rintro e w2⟨q,cap,rfl,Ah,Gz,A8⟩;have Ag:=Hi (HB1.trans (A8.mono HB1.size));have HW:=Hi (E9 Ah HB1.size);clear A8 Ah;go_wp2_with fail;exact El (v:=.tuple #[.slice q l.length cap,.bool true,.bool true]) (by simp[results,results81,go_sem]) rfl (HP _ _ _ HW Gz Ag)
theorem afM{w:World}{p y:Nat}{c:Int}{P:World→World→Prop}(hm:GM w p y)(hf:Calls prog 140 #[.pointer (some ⟨y,0,none⟩)] w fun e w'=>e=.returned (.int .i64 c)∧P w w'):
  Calls prog 78 #[.pointer (some ⟨p,0,none⟩)] w fun e w'=>e=.returned (.int .i64 c)∧P w w':=by
 have c0:=hm.cell;have HF:=Hi hf;clear hf hm;go_enter func78,ntmps78;go_wp2_with fail;refine HF.mono ?_;rintro e w1⟨rfl,Ad⟩;go_wp2_with fail;go_ret;exact⟨rfl,Ad⟩
end Dep
end Go.Proofs.YtmbbhdebddbhoaaGreat
