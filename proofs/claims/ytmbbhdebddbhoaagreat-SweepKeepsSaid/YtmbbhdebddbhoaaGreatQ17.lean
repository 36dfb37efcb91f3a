/- FilOpenW -/
import Derived.Test.YtmbbhdebddbhoaaGreatQ16
set_option maxHeartbeats 8000000
set_option maxRecDepth 100000
set_option linter.all false
namespace Go.Proofs.YtmbbhdebddbhoaaGreat
open Tryz
section
open Go.RowKit Go.Maps
open Fil
theorem yz:∀ {L:List (List (List UInt8))} {S:List UInt8},Wal.groupsE L=some S→64*L.length≤S.length∧∀ l∈L,rowLen l≤S.length
 |[],S,h=>by simp[Wal.groupsE] at h;subst h;simp
 |t :: L,S,h=>by
  simp only[Wal.groupsE] at h;cases h1:Wal.EU t with
  |none=>rw[h1] at h;cases h
  |some a=>
   rw[h1] at h;simp only[BI] at h;cases h2:Wal.groupsE L with
   |none=>rw[h2] at h;cases h
   |some b=>
    rw[h2] at h;simp only[Dm,Bt] at h;subst h;obtain⟨g1,g2⟩:=yz h2;obtain⟨_,g4⟩:=Wal.WG h1;obtain⟨c,hc,e⟩:=Wal.Zr h1;have g5:=Zn hc;have g6:c.length≤a.length:=(by rw[e,Wal.Md,Aj,Crc.Be];omega);rw[Aj,AX];refine⟨by omega,fun l hl=>?_⟩;rcases AZ.1 hl with rfl|hl
    ·omega
    ·have:=g2 l hl;omega
theorem aj6(l:List T):2*l.length≤rowLen l∧∀ s∈l,s.length≤rowLen l:=by
 unfold rowLen
 induction l with
 |nil=>simp
 |cons x l ih=>
  obtain⟨h1,h2⟩:=ih;simp only[Bg,Cx,AX];refine⟨by omega,fun s hs=>?_⟩;rcases AZ.1 hs with rfl|hs
  ·omega
  ·have:=h2 s hs;omega
theorem yA{D:Dsk}(hF:D.Bf){g u:Nat}{G:List (List T)}{n:Nat}(h1:1≤n)(hn:1+n≤D.n)(h:Wal.FV (Dsk.text D.now 1 n) n=some (g,u,G)):g < 18446744073709551616∧G.length≤20000∧∀ l∈G,l.length≤1000000∧∀ s∈l,s.length≤2000000:=by
 have hn2:=hF.n2;have hlen:(Dsk.text D.now 1 n).length=64*n:=Dsk.Wi hF.now 1 n (by omega);obtain⟨b1,b2,b3,_⟩:=Wal.WH h (by rw[hlen];exact Ab _) h1;have hS:(((Dsk.text D.now 1 n).drop 64).take (64*u)).length≤64*n:=by rw[Aw,BA,hlen];omega
 obtain⟨c1,c2⟩:=yz b3;refine⟨b2,by omega,fun l hl=>?_⟩;have:=c2 l hl;obtain⟨d1,d2⟩:=aj6 l;exact⟨by omega,fun s hs=>by have:=d2 s hs;omega⟩
theorem yB{f:Nat→T}{log size a num:Nat}{A:M}(h:IU f log size=some (a,num,A)):(f 0=Wal.pad [0]∧a=0∧num=0∧A=[])∨(a≤1∧f 0=Fil.mark a num∧num=Crc.val (((f 0).take 13).drop 5)∧∃ t r,cut (Dsk.text f (BL log size a) size)=some (t,r)∧Fil.read t=some A):=by
 unfold IU at h;by_cases h2:f 0=Wal.pad [0]
 ·rw[Ac h2] at h;simp only[Bt,Jc] at h;exact .inl ⟨h2,h.1.symm,h.2.1.symm,h.2.2.symm⟩
 ·rw[Aa h2] at h;by_cases h3:((f 0).getD 4 0).toNat≤1∧f 0=Fil.mark ((f 0).getD 4 0).toNat (Crc.val (((f 0).take 13).drop 5))
  ·rw[Ac h3] at h;cases hc:cut (Dsk.text f (BL log size ((f 0).getD 4 0).toNat) size) with
   |none=>rw[hc] at h;cases h
   |some p=>
    rw[hc] at h;simp only[BI] at h;obtain⟨m,hm,e⟩:=Pb.1 h;simp only[Jc] at e;obtain⟨e1,e2,e3⟩:=e;rw[e1,e2] at h3;rw[e1] at hc;exact .inr ⟨h3.1,h3.2,e2.symm,p.1,p.2,hc,by rw[hm,e3]⟩
  ·rw[Aa h3] at h;cases h
theorem aj7{D D':Dsk}{F:St}{k:Int}(h:openF D=(some F,D',k)):k=0∧8≤D.n∧D.down=false∧∃ a num A g u G cs,IU D.now (lg D.n) (sz D.n)=some (a,num,A)∧Wal.FV (Dsk.text D.now 1 (lg D.n)) (lg D.n)=some (g,u,G)∧¬ (0 < num∧g < num -1)∧ungroups G=some cs∧
  ((g < num∧Cs D ⟨1,lg D.n,g,u,G,0⟩=(D',F.w,0)∧F=⟨lg D.n,sz D.n,a,A,F.w,0⟩)∨(¬ g < num∧D'=D∧F=⟨lg D.n,sz D.n,a,JG A cs,⟨1,lg D.n,g,u,G,0⟩,0⟩)):=by
 unfold openF at h;by_cases h8:D.n < 8
 ·rw[Ac h8] at h;simp at h
 rw[Aa h8] at h;by_cases hd:D.down=true
 ·rw[Ac hd] at h;simp at h
 rw[Aa hd] at h;cases h1:IU D.now (lg D.n) (sz D.n) with
 |none=>rw[h1] at h;simp at h
 |some p=>
  obtain⟨a,num,A⟩:=p;rw[h1] at h;simp only at h;cases h2:Wal.FV (Dsk.text D.now 1 (lg D.n)) (lg D.n) with
  |none=>rw[h2] at h;simp at h
  |some p=>
   obtain⟨g,u,G⟩:=p;rw[h2] at h;simp only at h;by_cases h3:0 < num∧g < num -1
   ·rw[Ac h3] at h;simp at h
   rw[Aa h3] at h;cases h4:ungroups G with
   |none=>rw[h4] at h;simp at h
   |some cs=>
    rw[h4] at h;simp only at h;by_cases h5:g < num
    ·rw[Ac h5] at h;by_cases h6:(Cs D ⟨1,lg D.n,g,u,G,0⟩).2.2=0
     ·rw[Ac h6] at h;simp only[Jc,Bt] at h;obtain⟨e1,e2,e3⟩:=h;subst e1;exact⟨e3.symm,by omega,by simpa using hd,a,num,A,g,u,G,cs,rfl,rfl,h3,h4,.inl ⟨h5,Prod.ext e2 (Prod.ext rfl h6),rfl⟩⟩
     ·rw[Aa h6] at h;simp at h
    ·rw[Aa h5] at h;simp only[Jc,Bt] at h;obtain⟨e1,e2,e3⟩:=h;exact⟨e3.symm,by omega,by simpa using hd,a,num,A,g,u,G,cs,rfl,rfl,h3,h4,.inr ⟨h5,e2.symm,e1.symm⟩⟩
theorem X4:∀ (n:Nat) (l:List T) (cs:List Af),l.length≤n→ungroup l=some cs→2*cs.length=l.length:=by
 intro n
 induction n with
 |zero=>
  intro l cs hl h;have:l=[]:=List.eq_nil_of_length_eq_zero (by omega);subst this;simp only[ungroup,Bt] at h;subst h;rfl
 |succ n ih=>
  intro l cs hl h
  match l,hl,h with
  |[],_,h=>simp only[ungroup,Bt] at h;subst h;rfl
  |[_],_,h=>simp[ungroup] at h
  |[] :: _ :: _,_,h=>simp[ungroup] at h
  |(b :: n') :: d :: R,hl,h=>
   simp only[ungroup] at h;split at h
   ·obtain⟨cs',h1,h2⟩:=Pb.1 h;subst h2;have:=ih R cs' (by simp at hl;omega) h1;simp;omega
   ·cases h
theorem yC:∀ {G:List (List T)} {cs:List (List Af)},ungroups G=some cs→cs.length=G.length∧∀ k (h:k < G.length) (h':k < cs.length),ungroup G[k]=some cs[k]
 |[],cs,h=>by simp only[ungroups,Bt] at h;subst h;exact⟨rfl,fun k hk=>by simp at hk⟩
 |g :: G,cs,h=>by
  simp only[ungroups] at h;cases h1:ungroup g with
  |none=>rw[h1] at h;cases h
  |some c=>
   rw[h1] at h;simp only[BI] at h;obtain⟨cs',h2,h3⟩:=Pb.1 h;subst h3;obtain⟨g1,g2⟩:=yC h2;refine⟨by simp[g1],fun k hk hk'=>?_⟩;cases k with
   |zero=>exact h1
   |succ k=>exact g2 k (by simpa using hk) (by simpa using hk')
theorem yD(A:M)(cs:List (List Af))(k:Nat)(h:k < cs.length):JG A (cs.take (k+1))=made (JG A (cs.take k)) cs[k]:=by
 rw[BS h,vL]
theorem yE(A:M)(cs:List (List Af))(b:Nat)(hb:∀ c∈cs,c.length≤b):(JG A cs).length≤A.length+cs.length*b:=by
 induction cs generalizing A with
 |nil=>simp[JG]
 |cons c cs ih=>
  have h1:=ih (made A c) (fun x hx=>hb x (Dh _ hx));have h2:=j6 A c;have h3:=hb c Cc
  show(JG (made A c) cs).length≤_
  rw[AX,Nat.succ_mul];omega
theorem GY.index{w:World}{q:Option Addr}{c:Nat}{L:List (List T)}(h:GY w (.slice q L.length c) L)(k:Nat)(hk:k < L.length):
  ∃ p:Addr,(∀ W,(Instr.indexAt 128 (.slice q L.length c) (.int .i64 (k:Int))).run prog W=.ok (.pointer (some p)) W)∧∃ ar cr,w.cell? p=some (.slice ar L[k].length cr)∧BB w ar L[k]:=by
 obtain⟨cs,h1,h2,h3,h4⟩:=h;rcases h1.2 with⟨e1,e2⟩|⟨g,cap,cur,e1,_⟩
 ·omega
 ·injection e1 with e1 e2 e3
  subst e1;have hck:k < cs.length:=by omega
  obtain⟨ar,cr,er,ht⟩:=(h4 k hk hck).texts;have hc:=h1.cells (g:=g) rfl k cs[k] (BP hck);rw[add_plain,er] at hc;refine⟨⟨g,k,Option.none⟩,fun W=>?_,ar,cr,hc,ht⟩;have:=Fw prog 128 27 underlying128 1 (by kernel_rfl) ⟨g,0,Option.none⟩ L.length c k hk W;rw[Nat.mul_one,add_plain] at this;exact this
theorem aj8{w:World}{y log size b:Nat}{D:Dsk}{fp:Nat→Prop}(hd:AU w b D fp)(hy:w.heap[y]?=some (.cells (Gv log size 0 b none none) 113))(hup:D.down=false){a num:Nat}{A:M}(hl:IU D.now log size=some (a,num,A))
  (WC:log≤16384)(aug:size≤8192)(au7:∀ a,a≤1→BL log size a+size≤D.n):
  Calls prog 52 #[.pointer (some ⟨y,0,none⟩)] w fun e w'=>jm w y log size b a num A e w':=by
 rcases yB hl with⟨h0,rfl,rfl,rfl⟩|⟨ha,h0,hn,t,r,hc,hr⟩
 ·exact ai8 hd hy hup h0
 ·have hv:num < 18446744073709551616:=by
   rw[hn];refine Di (Crc.Gg _) ?_;have hlen:(((D.now 0).take 13).drop 5).length≤8:=(by rw[BA,Aw];omega);exact Ah (Nat.pow_le_pow_right (by decide) hlen) (by decide)
  exact ai9 hd hy hup ha hv h0 WC aug (au7 a ha) hc hr
theorem yF:∀ (n:Nat) (lo:Option T) (s:T) (r:M×T),readE n lo s=some r→8*r.1.length+r.2.length≤s.length
 |0,lo,s,r,h=>by simp only[readE,Bt] at h;subst h;simp
 |n+1,lo,s,r,h=>by
  simp only[readE] at h;cases h1:cut s with
  |none=>rw[h1] at h;cases h
  |some p=>
   rw[h1] at h;simp only[BI] at h;cases h2:cut p.2 with
   |none=>rw[h2] at h;cases h
   |some q=>
    rw[h2] at h;simp only[BI] at h;split at h
    ·obtain⟨r',h3,h4⟩:=Pb.1 h;subst h4;have g1:=Pp (p:=p.1) (q:=p.2) h1;have g2:=Pp (p:=q.1) (q:=q.2) h2;have g3:=yF n _ _ _ h3;simp only[AX];omega
    ·cases h
theorem aj9{s:T}{A:M}(h:Fil.read s=some A):8*A.length≤s.length:=by
 unfold Fil.read at h;split at h
 ·cases h
 ·cases h1:readE (Crc.val (s.take 4)) none (s.drop 4) with
  |none=>rw[h1] at h;cases h
  |some r=>
   rw[h1] at h;simp only[BI] at h;split at h
   ·have:=yF _ _ _ _ h1;simp only[Bt] at h;subst h;rw[BA] at this;omega
   ·cases h
theorem aja{D:Dsk}(hF:D.Bf){log size a num:Nat}{A:M}(h:IU D.now log size=some (a,num,A))(aug:size≤8192)(au7:∀ a,a≤1→BL log size a+size≤D.n):a≤1∧A.length≤100000:=by
 rcases yB h with⟨_,h1,_,rfl⟩|⟨ha,_,_,t,r,hc,hr⟩
 ·exact⟨by omega,by simp⟩
 ·have h1:=Pp hc;have h2:=aj9 hr;rw[Dsk.Wi hF.now _ _ (au7 a ha)] at h1;exact⟨ha,by omega⟩
end
section
open Go.RowKit Go.Maps
open Fil
def ajb(w:World)(b:Nat)(fp:Nat→Prop)(F:St)(D':Dsk)(e:Ending)(w':World):Prop:=
 ∃ y m x gv fp',e=.returned (.tuple #[.pointer (some ⟨y,0,none⟩),.int .i64 0])∧AU w' b D' fp'∧Ci w' y b m x gv F∧¬ fp' m∧A7 fp w w'∧Cg fp fp' w∧∀ k,Pq y m x gv k→w.heap.size≤k
theorem GY.jV{w:World}{v:Value}{L:List (List T)}(h:GY w v L):∃ q cap,v=.slice q L.length cap:=by
 obtain⟨cs,h1,_⟩:=h;exact AA h1
theorem Ci.ofRaw{W:World}{y mb x b log size a:Nat}{gv:Value}{L:AO}{A:M}(hy:W.heap[y]?=some (.cells (Gv log size a b (some mb) none) 113))(hm:BJ W mb A)(hw:Bq W x b gv L)(h1:log≤16384)(h2:size≤16384)(h3:1≤size)(h4:a≤1):
  Ci (W.setCell ⟨y,5,none⟩ (.pointer (some ⟨x,0,none⟩))) y b mb x gv ⟨log,size,a,A,L,0⟩:=by
 have hu:A7 (fun k=>k=y) W (W.setCell ⟨y,5,none⟩ (.pointer (some ⟨x,0,none⟩))):=(A7.refl (fun k=>k=y) W).setCell (p:=⟨y,5,none⟩) (.inl rfl) _;have hb:Ap W y 113:=⟨_,_,hy⟩
 exact⟨Bh W y 5 _ _ _ hy,hm.upd hu (fun e=>hm.BV (e▸hb)),hw.upd hu (fun k hk e=>by subst e;exact Ap.ne hk hb (by decide) rfl) (fun k hk e=>by
  subst e;rcases hk with h|h
  ·exact Ap.ne hb (h▸⟨_,_,hw.struct⟩:Ap W k 207) (by decide) rfl
  ·obtain⟨cs',g1,_⟩:=hw.groups;exact Ap.ne hb (Bi g1 h) (by decide) rfl),⟨h1,h2,h3,h4⟩⟩
theorem ajc{w:World}{b:Nat}{D D':Dsk}{fp:Nat→Prop}{F:St}(hd:AU w b D fp)(h:openF D=(some F,D',0))(EX:D.loose.length≤300000000):
  Calls prog 18 #[.pointer (some ⟨b,0,none⟩)] w fun e w'=>ajb w b fp F D' e w':=by
 obtain⟨_,h8,hup,a,num,A,g,u,G,cs,hl,ho,jW,hcs,hend⟩:=aj7 h;have Ku:=hd.fine;have hn2:=Ku.n2;obtain⟨l1,l2,l3⟩:=Sg h8;have HD:=Hi hd;obtain⟨s1,s2,s3⟩:=yA Ku (by omega) (by omega) ho;have HS:=Hi (fun(V:World) (h:AU V b D fp)=>Qu h);have hlg:(max ((D.n:Int) / 8) 2)=((lg D.n:Nat):Int):=by unfold lg;omega
 have hsz:((D.n:Int) -1 -((lg D.n:Nat):Int)) / 2=((sz D.n:Nat):Int):=by unfold sz;omega
 have h8':¬ (D.n:Int) < 8:=by omega
 clear hd;go_enter func18,ntmps18;go_wp2_with fail;refine(HS _ HD).mono ?_;rintro e w1⟨rfl,rfl⟩;go_wp2_with fail;refine(HS _ HD).mono ?_;rintro e w1⟨rfl,rfl⟩;go_wp2_with fail;have hy0:=Aq w (.cells (Gv (lg D.n) 0 0 b none none) 113);have hb0:Bw w (w.alloc (.cells (Gv (lg D.n) 0 0 b none none) 113)).drew:=((Ad w.heap.size w).alloc (Ab _) _).drew;have HB0:=Hi hb0;have jX:=Hi (show(w.alloc (.cells (Gv (lg D.n) 0 0 b none none) 113)).drew.heap[w.heap.size]?=_ from hy0);have e1:IntKind.i64.wrap ((D.n:Int) -1)=(D.n:Int) -1:=CZ _ (by omega);have e2:IntKind.i64.wrap ((D.n:Int) -1 -((lg D.n:Nat):Int))=(D.n:Int) -1 -((lg D.n:Nat):Int):=CZ _ (by omega);have e3:IntKind.i64.wrap (((D.n:Int) -1 -((lg D.n:Nat):Int)).tdiv 2)=((sz D.n:Nat):Int):=by
  rw[Int.tdiv_eq_ediv_of_nonneg (by omega),hsz];exact CZ _ (by omega)
 have asR:(Gv (lg D.n) 0 0 b none none).setIfInBounds 2 (.int .i64 (IntKind.i64.wrap (((D.n:Int) -1 -((lg D.n:Nat):Int)).tdiv 2)))=Gv (lg D.n) (sz D.n) 0 b none none:=by rw[e3];rfl
 have ZY:=Hi asR;have Oe:=Hi (show(w.alloc (.cells ((Gv (lg D.n) 0 0 b none none).setIfInBounds 2 (.int .i64 (IntKind.i64.wrap (((D.n:Int) -1 -((lg D.n:Nat):Int)).tdiv 2)))) 113)).drew.heap[w.heap.size]?=some (.cells (Gv (lg D.n) (sz D.n) 0 b none none) 113) by rw[asR];exact Aq w _);have HD0:=Hi (HD.below hb0);obtain⟨_,d1,d2,_,_,_,_,df⟩:=Gw jX.out;have df2:=df 2;clear df hy0 hb0 asR e3
 go_region_held3 (fun W=>W.cell? ⟨w.heap.size,1,none⟩=some (.int .i64 ((lg D.n:Nat):Int)))
  (first|exact(Gw jX).2.1|exact(Gw Oe).2.1)
  (first
   |(go_at_call 51;refine(HS _ HD0).mono ?_;rintro e w1 ⟨rfl,rfl⟩))
 all_goals
  clear d1 d2 df2;go_wp2_with fail;have yG:(Gv (lg D.n) 0 0 b none none).setIfInBounds 2 (.int .i64 (((D.n:Int) -1 -((lg D.n:Nat):Int)) / 2))=Gv (lg D.n) (sz D.n) 0 b none none:=by rw[hsz];rfl
  rw[yG];have Og:=Hi (show(w.alloc (.cells (Gv (lg D.n) (sz D.n) 0 b none none) 113)).drew.heap[w.heap.size]?=_ from Aq w _);have HB2:=Hi (show Bw w (w.alloc (.cells (Gv (lg D.n) (sz D.n) 0 b none none) 113)).drew from((Ad w.heap.size w).alloc (Ab _) _).drew);have HD2:=Hi (HD.below HB2);clear yG ZY Oe jX HB0 HD0 e1 e2;generalize (w.alloc (.cells (Gv (lg D.n) (sz D.n) 0 b none none) 113)).drew=w2 at*
  refine(aj8 HD2 Og hup hl (by omega) (by omega) (fun a ha=>by
   unfold BL;have:a*sz D.n≤1*sz D.n:=Kj _ ha;omega)).mono ?_
  rintro e w3⟨mb,rfl,hy3,Od,hu3,jY⟩;have Mt:=Hi hy3;have QV:=Hi Od;have Ov:=Hi (show w.heap.size≤mb from Ah HB2.size jY);have HB3:=Hi (Bu HB2 hu3 (fun k e=>by subst e;exact Ab _) HB2.size);have HD3:=Hi (HD.below HB3);clear hy3 Od hu3 jY Og HB2 HD2;obtain⟨_,d1,_⟩:=Gw Mt.out;have hW:D.openW 1 ((lg D.n:Nat):Int)=(some ⟨1,lg D.n,g,u,G,0⟩,0):=by
   unfold Dsk.openW;rw[Aa (by omega),Aa (by simp[hup])]
   show(match Wal.FV (Dsk.text D.now 1 (lg D.n)) (lg D.n) with
    |none=>((none,50):Option AO×Int)
    |some (g,u,l)=>(some (⟨1,lg D.n,g,u,l,0⟩:AO),(0:Int)))=_
   rw[ho]
  have hwo:=ahq HD3 1 ((lg D.n:Nat):Int) (by omega) (by omega);unfold Ps at hwo;rw[hW] at hwo;have Qv:=Hi hwo;clear hwo hW;go_wp2_with fail;refine Qv.mono ?_;rintro e w4⟨x,gv,rfl,hw4,hb4,yH⟩;have ZZ:=Hi (show ∀ k,Ba x gv k→w.heap.size≤k from fun k hk=>Ah HB3.size (yH k hk));have Ay:=Hi (HB3.trans (hb4.mono HB3.size));have LA:=Hi ((hb4.block w.heap.size (Ae Mt)).trans Mt);have Pv:=Hi (QV.below hb4);have Np:=Hi hw4;have Oo:=Hi (fun(V:World) (h:Bq V x b gv ⟨1,lg D.n,g,u,G,0⟩)=>wQ h);have UN:=Hi (ahw hw4 (by show G.length≤_;omega) (fun l hl=>by have:=(s3 l hl).1;omega));clear hw4 hb4 yH HB3 Mt QV HD3 Qv d1;have hun:=yC hcs;have KI:=Hi hun;have Fz:=Hi s3
  obtain⟨ha1,hAl⟩:=aja Ku hl (by omega) (fun a ha=>by
   unfold BL;have:a*sz D.n≤1*sz D.n:=Kj _ ha;omega)
  have Py:=Hi hl;have HHO:=Hi ho;clear s3 hl ho hun hlg hsz h8';rcases hend with⟨hlt,hre,hF⟩|⟨hge,e,rfl⟩
  ·have h1:(0:Int) < (num:Int):=(by omega);have hw1:IntKind.u64.wrap ((num:Int) -1)=((num -1:Nat):Int):=by
    have:num≤18446744073709551616:=(by omega);simp[IntKind.wrap,IntKind.bits,IntKind.signed];omega
   have hq1:¬ g < num -1:=(by omega);have hq2:g < num:=hlt;have Mr:=Hi hre;generalize hL2:F.w=L2 at*;clear hre;subst hF;clear jW hL2;go_wp2_with fail;refine(Oo _ Np).mono ?_;rintro e w4'⟨rfl,rfl⟩;go_wp2_with fail;refine UN.mono ?_;rintro e w5⟨v5,rfl,hg5,hb5,hv5⟩;obtain⟨q5,c5,rfl⟩:=hg5.jV;have FX:=Hi hg5;have BG:=Hi (Ay.trans (hb5.mono Ay.size));have Fy:=Hi ((hb5.block w.heap.size (Ae LA)).trans LA);have Ei:=Hi (Pv.below hb5);have GZ:=Hi (Np.below hb5);obtain⟨es,ck,hes⟩:=Ei.is;have NB:=Hi hes
   have Gm:=Hi (show ∀ (F:Nat→Prop) (W:World),A7 F w5 W→(∀ k,F k→k=mb)→Bq W x b gv ⟨1,lg D.n,g,u,G,0⟩ from fun F W hu hF=>GZ.upd hu (fun k hk e=>by rw[hF k e] at hk;exact Ei.BV hk) (fun k hk e=>by
    rw[hF k e] at hk;rcases hk with h|h
    ·exact Ei.BV (t:=207) (h▸⟨_,_,GZ.struct⟩)
    ·obtain⟨cs',h1,_⟩:=GZ.groups;exact Ei.BV (Bi h1 h)))
   clear hg5 hb5 hv5 hes LA Pv Np UN;go_wp2_with fail
   go_loopw [9,10,11,75] (fun _ _ _ i wr=>∃ k:Nat,k≤G.length∧i=.int .i64 k∧BJ wr mb A∧A7 (fun k=>k=mb) w5 wr) (fun _ _ _ i _=>G.length -(intOf i).toNat)
   case atStart=>exact⟨0,Ar _,rfl,Ei,A7.refl _ _⟩
   case round=>
    obtain⟨k,hk,rfl,hm,hu⟩:=hrel;by_cases hlt:k < G.length
    ·have hkc:k < cs.length:=(by rw[KI.1];exact hlt);obtain⟨p,hix,ar,cr,hc,htx⟩:=FX.index k hlt;have hc':wr.cell? p=some (.slice ar G[k].length cr):=(hu.cell (Bz hc) (Sl hc NB)).trans hc
     have QX:BB wr ar G[k]:=htx.upd hu (fun p' hp' hne=>by
      obtain⟨p2,hp2,h3⟩:=htx 0 (List.length_pos_iff.2 hne);rw[hp'] at hp2;injection hp2 with hp2
      subst hp2;have:=Sl h3 NB;rwa[add_block] at this)
     have X5:=Fz _ (BF hlt);have EI:=KI.2 k hlt hkc;have GA:=iD _ _ _ (Ab _) EI;have EW:=X4 _ _ _ (Ab _) EI;have hfu:=jf (cap:=cr) QX (by omega) (fun s hs=>by have:=X5.2 s hs;omega);unfold QO at hfu;rw[EI] at hfu;have hcl:cs[k].length≤1000000:=(by omega);have NF:=Hi hfu;have LH:=Hi GA;have HM:=Hi hm;have HU:=Hi hu;clear hc htx QX EI GA EW hfu hm hu;generalize G[k]=Gk at*;generalize cs[k]=ck at*;clear hkc;go_wp2_with fail;refine NF.mono ?_;rintro e w6⟨q6,c6,rfl,EK,hb6⟩;have SB:=Hi (D7.BU EK);have X6:=Hi (HM.below hb6);have H8:=Hi (HU.trans (A7.of_below (F:=fun k=>k=mb) hb6) (fun i hi=>.inl hi));clear EK hb6 hc';have IY:=Gm _ _ H8 (fun k e=>e);have IZ:=(H8.block w.heap.size (Ae Fy) (fun e=>Ei.BV (t:=113) (e▸⟨_,_,Fy⟩))).trans Fy.out;obtain⟨_,_,_,_,d4,_⟩:=Gw IZ;have Ip:=Hi IY;clear IY IZ;go_wp2_with fail;refine(Oo _ Ip).mono ?_;rintro e w7⟨rfl,rfl⟩;go_wp2_with fail;go_roundw
     case rel=>exact⟨k+1,by omega,by go_num,X6,H8⟩
     case measure=>simp[intOf];omega
    ·obtain rfl:k=G.length:=(by omega);have HM:=Hi hm;have HU:=Hi hu;clear hm hu;have IY:=Gm _ _ HU (fun k e=>e);have IZ:=(HU.block w.heap.size (Ae Fy) (fun e=>Ei.BV (t:=113) (e▸⟨_,_,Fy⟩))).trans Fy.out;have Ip:=Hi IY;have JL:=Hi IZ;clear IY IZ;go_wp2_with fail;refine(Oo _ Ip).mono ?_;rintro e w7⟨rfl,rfl⟩;have D8:=Bu BG HU (fun k e=>by subst e;exact Ov.out) BG.size;have CX:=Hi D8;have hrs:=xU (HD.below D8) Ip (by omega);rw[Mr.out] at hrs;have Dn:=Hi hrs;clear D8 hrs;go_wp2_with fail;refine Dn.mono ?_;rintro e w9⟨rfl,yI,gv9,g1,g2,g3,g4,g5⟩;have ava:=Hi (show ∀ k,w.heap.size≤k→¬ fp k from fun k hk e=>by have:=HD.lt _ e;omega);have hny:¬ (fp w.heap.size∨Ba x gv w.heap.size):=by
      rintro(e|e|e)
      ·exact ava _ (Ab _) e
      ·exact Ap.ne (⟨_,_,JL⟩:Ap _ w.heap.size 113) (e▸⟨_,_,Ip.struct⟩:Ap _ w.heap.size 207) (by decide) rfl
      ·obtain⟨cs',h1,_⟩:=Ip.groups;exact Ap.ne (⟨_,_,JL⟩:Ap _ w.heap.size 113) (Bi h1 e) (by decide) rfl
     have hnm:¬ (fp mb∨Ba x gv mb):=by
      rintro(e|e|e)
      ·exact ava _ Ov e
      ·exact HM.BV (t:=207) (e▸⟨_,_,Ip.struct⟩)
      ·obtain⟨cs',h1,_⟩:=Ip.groups;exact HM.BV (Bi h1 e)
     have yJ:=(g3.block w.heap.size (Ae JL) hny).trans JL.out;have jZ:=Hi yJ;have MB:=Hi (HM.upd g3 hnm);have Fx:=Hi g1;have HG2:=Hi g2;have Fb:=Hi g3;have FW:=Hi g4;have FX:=Hi g5;have ajg:=Hi HM.lt;clear g1 g2 g3 g4 g5 hny hnm yJ;obtain⟨_,_,_,_,_,d5,_,df⟩:=Gw jZ.out;have Nq:=df 5;clear df;go_wp2_with fail;go_ret2;have hst:Cg fp yI w:=fun i hi=>(FW i hi).imp id (fun e=>Ah CX.size e)
     refine⟨w.heap.size,mb,x,gv9,yI,rfl,Fx.upd ((A7.refl (fun k=>k=w.heap.size) _).setCell (p:=⟨w.heap.size,5,none⟩) (.inl rfl) _) (fun k hk e=>by subst e;exact Fx.BV _ hk (by decide) (by decide) ⟨_,_,jZ⟩),Ci.ofRaw jZ MB HG2 (by omega) (by omega) (by omega) ha1,fun e=>(FW mb e).elim (ava _ Ov) (fun f=>by have:=ajg.out;omega),((A7.of_below CX).trans Fb (fun i hi=>hi.elim .inl (fun e=>.inr (ZZ i e)))).setCell (p:=⟨w.heap.size,5,none⟩) (.inr (Ab _)) _,hst,?_⟩;rintro k (rfl|rfl|hk)
     ·exact Ab _
     ·exact Ov.out
     ·exact(FX k hk).elim (ZZ k) (fun e=>Ah CX.size e)
  ·have e:=e.symm;subst e;by_cases h0:num=0
   ·subst h0;clear jW hge;go_wp2_with fail;refine UN.mono ?_;rintro e w5⟨v5,rfl,hg5,hb5,hv5⟩;obtain⟨q5,c5,rfl⟩:=hg5.jV;have FX:=Hi hg5;have BG:=Hi (Ay.trans (hb5.mono Ay.size));have Fy:=Hi ((hb5.block w.heap.size (Ae LA)).trans LA);have Ei:=Hi (Pv.below hb5);have GZ:=Hi (Np.below hb5);obtain⟨es,ck,hes⟩:=Ei.is;have NB:=Hi hes
    have Gm:=Hi (show ∀ (F:Nat→Prop) (W:World),A7 F w5 W→(∀ k,F k→k=mb)→Bq W x b gv ⟨1,lg D.n,g,u,G,0⟩ from fun F W hu hF=>GZ.upd hu (fun k hk e=>by rw[hF k e] at hk;exact Ei.BV hk) (fun k hk e=>by
     rw[hF k e] at hk;rcases hk with h|h
     ·exact Ei.BV (t:=207) (h▸⟨_,_,GZ.struct⟩)
     ·obtain⟨cs',h1,_⟩:=GZ.groups;exact Ei.BV (Bi h1 h)))
    clear hg5 hb5 hv5 hes LA Pv Np UN;go_wp2_with fail
    go_loopw [9,10,11,75] (fun _ _ _ i wr=>∃ k:Nat,k≤G.length∧i=.int .i64 k∧BJ wr mb (JG A (cs.take k))∧A7 (fun k=>k=mb) w5 wr) (fun _ _ _ i _=>G.length -(intOf i).toNat)
    case atStart=>exact⟨0,Ar _,rfl,Ei,A7.refl _ _⟩
    case round=>
     obtain⟨k,hk,rfl,hm,hu⟩:=hrel;by_cases hlt:k < G.length
     ·have hkc:k < cs.length:=(by rw[KI.1];exact hlt);obtain⟨p,hix,ar,cr,hc,htx⟩:=FX.index k hlt;have hc':wr.cell? p=some (.slice ar G[k].length cr):=(hu.cell (Bz hc) (Sl hc NB)).trans hc
      have QX:BB wr ar G[k]:=htx.upd hu (fun p' hp' hne=>by
       obtain⟨p2,hp2,h3⟩:=htx 0 (List.length_pos_iff.2 hne);rw[hp'] at hp2;injection hp2 with hp2
       subst hp2;have:=Sl h3 NB;rwa[add_block] at this)
      have X5:=Fz _ (BF hlt);have EI:=KI.2 k hlt hkc;have GA:=iD _ _ _ (Ab _) EI;have EW:=X4 _ _ _ (Ab _) EI;have hfu:=jf (cap:=cr) QX (by omega) (fun s hs=>by have:=X5.2 s hs;omega);unfold QO at hfu;rw[EI] at hfu;have kg:=Hi (yD A cs k hkc)
      have hlen:=yE A (cs.take k) 1000000 (fun c hc=>by
       obtain⟨j,hj,rfl⟩:=List.getElem_of_mem (List.mem_of_mem_take hc);have h1:=KI.2 j (by rw[←KI.1];exact hj) hj;have h2:=X4 _ _ _ (Ab _) h1;have h3:=(Fz _ (BF (by rw[←KI.1];exact hj:j < G.length))).1;omega)
      have hck:(cs.take k).length≤20000:=(by rw[Aw];omega);have X7:(JG A (cs.take k)).length≤1000000000000000:=by
       refine Ah hlen ?_;have:(cs.take k).length*1000000≤20000*1000000:=Kj _ hck;omega
      have hcl:cs[k].length≤1000000:=(by omega);have NF:=Hi hfu;have LH:=Hi GA;have HM:=Hi hm;have HU:=Hi hu;have HL2:=Hi X7;clear hc htx QX EI GA EW hfu hlen X7 hm hu hck;generalize G[k]=Gk at*;generalize cs[k]=ck at*;clear hkc;go_wp2_with fail;refine NF.mono ?_;rintro e w6⟨q6,c6,rfl,EK,hb6⟩;have SB:=Hi (D7.BU EK);have X6:=Hi (HM.below hb6);have H8:=Hi (HU.trans (A7.of_below (F:=fun k=>k=mb) hb6) (fun i hi=>.inl hi));clear EK hb6 hc';have IY:=Gm _ _ H8 (fun k e=>e);have IZ:=(H8.block w.heap.size (Ae Fy) (fun e=>Ei.BV (t:=113) (e▸⟨_,_,Fy⟩))).trans Fy.out;obtain⟨_,_,_,_,d4,_⟩:=Gw IZ;have Ip:=Hi IY;clear IY IZ;go_wp2_with fail;refine(Oo _ Ip).mono ?_;rintro e w7⟨rfl,rfl⟩;go_wp2_with fail
      refine(ja (cap:=c6) X6 SB hcl HL2 (fun c hc=>by
       have:=LH c hc;unfold Af.may E9 at this;simp at this;unfold maxLen;omega)).mono ?_
      rintro e w8⟨rfl,Pj,Iq⟩;have Oi:=Hi Pj;have WT:=Hi (H8.trans Iq (fun i hi=>.inl hi));clear Pj Iq d4;go_wp2_with fail;go_roundw
      case rel=>exact⟨k+1,by omega,by go_num,by rw[kg.out];exact Oi.out,WT⟩
      case measure=>simp[intOf];omega
     ·obtain rfl:k=G.length:=(by omega);have hts:cs.take G.length=cs:=(by rw[←KI.1,Ck]);rw[hts] at hm;have HM:=Hi hm;have HU:=Hi hu;clear hts hm hu;have IY:=Gm _ _ HU (fun k e=>e);have IZ:=(HU.block w.heap.size (Ae Fy) (fun e=>Ei.BV (t:=113) (e▸⟨_,_,Fy⟩))).trans Fy.out;have Ip:=Hi IY;have JL:=Hi IZ;clear IY IZ;go_wp2_with fail;refine(Oo _ Ip).mono ?_;rintro e w7⟨rfl,rfl⟩;obtain⟨_,_,_,_,_,d5,_,df⟩:=Gw JL.out;have Nq:=df 5;clear df;go_wp2_with fail;go_ret2;have D8:=Bu BG HU (fun k e=>by subst e;exact Ov.out) BG.size;refine⟨w.heap.size,mb,x,gv,fp,rfl,(HD.below D8).upd ((A7.refl (fun k=>k=w.heap.size) _).setCell (p:=⟨w.heap.size,5,none⟩) (.inl rfl) _) (fun k hk e=>by subst e;have:=HD.lt _ hk;omega),Ci.ofRaw JL HM Ip (by omega) (by omega) (by omega) ha1,fun e=>by have:=HD.lt _ e;have:=Ov.out;omega,(A7.of_below D8).setCell (p:=⟨w.heap.size,5,none⟩) (.inr (Ab _)) _,fun _ h=>.inl h,?_⟩;rintro k (rfl|rfl|hk)
      ·exact Ab _
      ·exact Ov.out
      ·exact ZZ k hk
   ·have h1:(0:Int) < (num:Int):=(by omega);have hw1:IntKind.u64.wrap ((num:Int) -1)=((num -1:Nat):Int):=by
     simp[IntKind.wrap,IntKind.bits,IntKind.signed];omega
    have hq1:¬ g < num -1:=(by omega);have hq2:num≤g:=(by omega);clear jW hge h0;go_wp2_with fail;refine(Oo _ Np).mono ?_;rintro e w4'⟨rfl,rfl⟩;go_wp2_with fail;refine UN.mono ?_;rintro e w5⟨v5,rfl,hg5,hb5,hv5⟩;obtain⟨q5,c5,rfl⟩:=hg5.jV;have FX:=Hi hg5;have BG:=Hi (Ay.trans (hb5.mono Ay.size));have Fy:=Hi ((hb5.block w.heap.size (Ae LA)).trans LA);have Ei:=Hi (Pv.below hb5);have GZ:=Hi (Np.below hb5);obtain⟨es,ck,hes⟩:=Ei.is;have NB:=Hi hes
    have Gm:=Hi (show ∀ (F:Nat→Prop) (W:World),A7 F w5 W→(∀ k,F k→k=mb)→Bq W x b gv ⟨1,lg D.n,g,u,G,0⟩ from fun F W hu hF=>GZ.upd hu (fun k hk e=>by rw[hF k e] at hk;exact Ei.BV hk) (fun k hk e=>by
     rw[hF k e] at hk;rcases hk with h|h
     ·exact Ei.BV (t:=207) (h▸⟨_,_,GZ.struct⟩)
     ·obtain⟨cs',h1,_⟩:=GZ.groups;exact Ei.BV (Bi h1 h)))
    clear hg5 hb5 hv5 hes LA Pv Np UN;go_wp2_with fail
    go_loopw [9,10,11,75] (fun _ _ _ i wr=>∃ k:Nat,k≤G.length∧i=.int .i64 k∧BJ wr mb (JG A (cs.take k))∧A7 (fun k=>k=mb) w5 wr) (fun _ _ _ i _=>G.length -(intOf i).toNat)
    case atStart=>exact⟨0,Ar _,rfl,Ei,A7.refl _ _⟩
    case round=>
     obtain⟨k,hk,rfl,hm,hu⟩:=hrel;by_cases hlt:k < G.length
     ·have hkc:k < cs.length:=(by rw[KI.1];exact hlt);obtain⟨p,hix,ar,cr,hc,htx⟩:=FX.index k hlt;have hc':wr.cell? p=some (.slice ar G[k].length cr):=(hu.cell (Bz hc) (Sl hc NB)).trans hc
      have QX:BB wr ar G[k]:=htx.upd hu (fun p' hp' hne=>by
       obtain⟨p2,hp2,h3⟩:=htx 0 (List.length_pos_iff.2 hne);rw[hp'] at hp2;injection hp2 with hp2
       subst hp2;have:=Sl h3 NB;rwa[add_block] at this)
      have X5:=Fz _ (BF hlt);have EI:=KI.2 k hlt hkc;have GA:=iD _ _ _ (Ab _) EI;have EW:=X4 _ _ _ (Ab _) EI;have hfu:=jf (cap:=cr) QX (by omega) (fun s hs=>by have:=X5.2 s hs;omega);unfold QO at hfu;rw[EI] at hfu;have kg:=Hi (yD A cs k hkc)
      have hlen:=yE A (cs.take k) 1000000 (fun c hc=>by
       obtain⟨j,hj,rfl⟩:=List.getElem_of_mem (List.mem_of_mem_take hc);have h1:=KI.2 j (by rw[←KI.1];exact hj) hj;have h2:=X4 _ _ _ (Ab _) h1;have h3:=(Fz _ (BF (by rw[←KI.1];exact hj:j < G.length))).1;omega)
      have hck:(cs.take k).length≤20000:=(by rw[Aw];omega);have X7:(JG A (cs.take k)).length≤1000000000000000:=by
       refine Ah hlen ?_;have:(cs.take k).length*1000000≤20000*1000000:=Kj _ hck;omega
      have hcl:cs[k].length≤1000000:=(by omega);have NF:=Hi hfu;have LH:=Hi GA;have HM:=Hi hm;have HU:=Hi hu;have HL2:=Hi X7;clear hc htx QX EI GA EW hfu hlen X7 hm hu hck;generalize G[k]=Gk at*;generalize cs[k]=ck at*;clear hkc;go_wp2_with fail;refine NF.mono ?_;rintro e w6⟨q6,c6,rfl,EK,hb6⟩;have SB:=Hi (D7.BU EK);have X6:=Hi (HM.below hb6);have H8:=Hi (HU.trans (A7.of_below (F:=fun k=>k=mb) hb6) (fun i hi=>.inl hi));clear EK hb6 hc';have IY:=Gm _ _ H8 (fun k e=>e);have IZ:=(H8.block w.heap.size (Ae Fy) (fun e=>Ei.BV (t:=113) (e▸⟨_,_,Fy⟩))).trans Fy.out;obtain⟨_,_,_,_,d4,_⟩:=Gw IZ;have Ip:=Hi IY;clear IY IZ;go_wp2_with fail;refine(Oo _ Ip).mono ?_;rintro e w7⟨rfl,rfl⟩;go_wp2_with fail
      refine(ja (cap:=c6) X6 SB hcl HL2 (fun c hc=>by
       have:=LH c hc;unfold Af.may E9 at this;simp at this;unfold maxLen;omega)).mono ?_
      rintro e w8⟨rfl,Pj,Iq⟩;have Oi:=Hi Pj;have WT:=Hi (H8.trans Iq (fun i hi=>.inl hi));clear Pj Iq d4;go_wp2_with fail;go_roundw
      case rel=>exact⟨k+1,by omega,by go_num,by rw[kg.out];exact Oi.out,WT⟩
      case measure=>simp[intOf];omega
     ·obtain rfl:k=G.length:=(by omega);have hts:cs.take G.length=cs:=(by rw[←KI.1,Ck]);rw[hts] at hm;have HM:=Hi hm;have HU:=Hi hu;clear hts hm hu;have IY:=Gm _ _ HU (fun k e=>e);have IZ:=(HU.block w.heap.size (Ae Fy) (fun e=>Ei.BV (t:=113) (e▸⟨_,_,Fy⟩))).trans Fy.out;have Ip:=Hi IY;have JL:=Hi IZ;clear IY IZ;go_wp2_with fail;refine(Oo _ Ip).mono ?_;rintro e w7⟨rfl,rfl⟩;obtain⟨_,_,_,_,_,d5,_,df⟩:=Gw JL.out;have Nq:=df 5;clear df;go_wp2_with fail;go_ret2;have D8:=Bu BG HU (fun k e=>by subst e;exact Ov.out) BG.size;refine⟨w.heap.size,mb,x,gv,fp,rfl,(HD.below D8).upd ((A7.refl (fun k=>k=w.heap.size) _).setCell (p:=⟨w.heap.size,5,none⟩) (.inl rfl) _) (fun k hk e=>by subst e;have:=HD.lt _ hk;omega),Ci.ofRaw JL HM Ip (by omega) (by omega) (by omega) ha1,fun e=>by have:=HD.lt _ e;have:=Ov.out;omega,(A7.of_below D8).setCell (p:=⟨w.heap.size,5,none⟩) (.inr (Ab _)) _,fun _ h=>.inl h,?_⟩;rintro k (rfl|rfl|hk)
      ·exact Ab _
      ·exact Ov.out
      ·exact ZZ k hk
end
end Go.Proofs.YtmbbhdebddbhoaaGreat
