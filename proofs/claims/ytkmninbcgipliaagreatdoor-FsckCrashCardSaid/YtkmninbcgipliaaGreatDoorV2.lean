/- StrHeap WalT DiskCopy2 Trod2 DiskH Both Same DiskLaw DiskAlive KeepsRep WalRep WalLaw2 FilLaw -/
import Derived.StringKeys
import Derived.Test.YtkmninbcgipliaaGreatDoorV1
import Derived.MapKept
import Derived.Deep.Slices
import Derived.Deep.Fields
import Derived.ChangeArms
set_option maxHeartbeats 2000000
set_option maxRecDepth 100000
set_option linter.all false
namespace Go.Proofs.YtkmninbcgipliaaGreatDoor
open Tryz hiding t1 t2
section
open Go.RowKit Go.Maps Go.WideMaps
theorem vO{P:Program}{k:TypeId}(hk:P.underlying k=some .string){x:List UInt8}(hx:x.length≤maxLen):keyOf P k (.string (bs x))=some (.string x):=by
 have:=keyOf_string_mk hk (s:=bs x) hx;simpa using this
def DU(kv:List (List UInt8×Value))(i:List UInt8):Option Value:=(kv.find? (fun p=>p.1 == i)).map (·.2)
def Jb(i:List UInt8)(kv:List (List UInt8×Value)):List (List UInt8×Value):=kv.filter (fun p=>!(p.1 == i))
def Rc(i:List UInt8)(v:Value)(kv:List (List UInt8×Value)):List (List UInt8×Value):=(i,v) :: Jb i kv
theorem aAK(i:List UInt8)(kv:List (List UInt8×Value)):DU (Jb i kv) i=none:=by
 unfold DU Jb;rw[Option.map_eq_none_iff,List.find?_eq_none];intro p hp;have:=(FZ.1 hp).2;simpa using this
theorem anB{i j:List UInt8}(h:j≠i)(kv:List (List UInt8×Value)):DU (Jb i kv) j=DU kv j:=by
 unfold DU Jb;rw[find_filter_keep];intro p hp;simp at hp ⊢;intro e;exact h (hp.symm.trans e)
theorem anE(i:List UInt8)(v:Value)(kv:List (List UInt8×Value)):DU (Rc i v kv) i=some v:=by simp[DU,Rc]
theorem anD{i j:List UInt8}(h:j≠i)(v:Value)(kv:List (List UInt8×Value)):DU (Rc i v kv) j=DU kv j:=by
 have h2:¬ i=j:=fun e=>h e.symm
 rw[←anB h kv];simp[DU,Rc,h2]
theorem anz{i:List UInt8}{kv:List (List UInt8×Value)}(hn:(kv.map (·.1)).Nodup):(Jb i kv).length+(if(DU kv i).isSome then 1 else 0)=kv.length:=by
 induction kv with
 |nil=>simp[Jb,DU]
 |cons p kv ih=>
  simp only[Ca,Js] at hn;have ih':=ih hn.2;by_cases h:p.1=i
  ·have h0:DU kv i=none:=by
    unfold DU;rw[Option.map_eq_none_iff,List.find?_eq_none];intro q hq;simp;intro e;exact hn.1 (by rw[h,←e];exact Hu hq)
   rw[h0] at ih';have e1:Jb i (p :: kv)=Jb i kv:=(by simp[Jb,h]);have e2:DU (p :: kv) i=some p.2:=(by simp[DU,h]);rw[e1,e2];simpa using ih'
  ·have e1:Jb i (p :: kv)=p :: Jb i kv:=(by simp[Jb,h]);have e2:DU (p :: kv) i=DU kv i:=(by simp[DU,h]);rw[e1,e2];simp only[BG];omega
theorem anA{i:List UInt8}{kv:List (List UInt8×Value)}(hn:(kv.map (·.1)).Nodup):((Jb i kv).map (·.1)).Nodup:=by
 unfold Jb;exact hn.sublist (List.Sublist.map _ List.filter_sublist)
theorem aAL{i:List UInt8}{v:Value}{kv:List (List UInt8×Value)}(hn:(kv.map (·.1)).Nodup):((Rc i v kv).map (·.1)).Nodup:=by
 simp only[Rc,Ca,Js];refine⟨?_,anA hn⟩;intro h;obtain⟨p,hp,e⟩:=Bz.1 h;have:=(FZ.1 hp).2;simp[e] at this
theorem vK{kv:List (List UInt8×Value)}{i:List UInt8}{v:Value}(h:DU kv i=some v):(i,v)∈kv:=by
 unfold DU at h;obtain⟨p,hp,rfl⟩:=SA.1 h;have h1:=List.find?_some hp;simp at h1;subst h1;exact List.mem_of_find?_eq_some hp
def G9(P:Program)(K:TypeId)(w:World)(m:Nat)(kv:List (List UInt8×Value)):Prop:=
 (kv.map (·.1)).Nodup∧∃ D:DataW Value,w.ownsMap P K RN m kv.length D∧Tidy D∧size D=kv.length∧∀ i z,D.atKey (.string i) z=(match DU kv i with|some v=>.held v|none=>z)
section
variable {P:Program}{K T E:TypeId}{w:World}{m:Nat}{kv:List (List UInt8×Value)}
theorem G9.lt(h:G9 P K w m kv):m < w.heap.size:=h.2.choose_spec.1.lt
theorem G9.made(w:World):G9 P K (w.alloc (.map #[] 0)) w.heap.size []:=
 ⟨by simp,.map [],World.ownsMap_made w P K RN,tidy_empty,rfl,fun i z=>rfl⟩
theorem G9.kept{w':World}(h:G9 P K w m kv)(e:w'.heap[m]?=w.heap[m]?):G9 P K w' m kv:=by
 obtain⟨hn,D,⟨es,clock,hb,F,hs,hD⟩,rest⟩:=h;exact⟨hn,D,⟨es,clock,e.trans hb,F,hs,hD⟩,rest⟩
theorem G9.upd{F:Nat→Prop}{w':World}(h:G9 P K w m kv)(hu:A7 F w w')(hF:¬ F m):G9 P K w' m kv:=h.kept (hu.block m h.lt hF)
theorem G9.lookup(h:G9 P K w m kv)(hk:P.underlying K=some .string)(ht:P.underlying T=some (.map K E)){z:Value}(hz:(zeroValue E).run P w=.ok z w)(i:List UInt8)(hw:i.length≤maxLen):
  (Instr.lookup T (.map (some m)) (.string (bs i)) false).run P w=.ok ((DU kv i).getD z) w:=by
 obtain⟨_,D,hown,_,_,hat⟩:=h;obtain⟨v,ps,hrun,hv⟩:=hown.lookup (string_keyed hk) ht hz (zd:=.held z) (zp:=[]) rfl (vO hk hw);have e:=hat i (.held z);simp only[RN,Ci,ML] at hv;rw[e] at hv;rw[hrun];cases hg:DU kv i with
 |none=>rw[hg] at hv;simp at hv ⊢;exact hv.1
 |some u=>rw[hg] at hv;simp at hv ⊢;exact hv.1
theorem G9.aB(h:G9 P K w m kv)(hk:P.underlying K=some .string)(ht:P.underlying T=some (.map K E)){z:Value}(hz:(zeroValue E).run P w=.ok z w)(i:List UInt8)(hw:i.length≤maxLen):
  (Instr.lookup T (.map (some m)) (.string (bs i)) true).run P w=.ok (.tuple #[(DU kv i).getD z,.bool (DU kv i).isSome]) w:=by
 obtain⟨_,D,⟨es,clock,hb,F,_,rfl⟩,_,_,hat⟩:=h;rcases Maps.fit_look true (string_keyed hk) ht hz hb F (vO hk hw) with⟨hrun,_,h2⟩|⟨e0,y,_,_,hrun,qZ,h2,_⟩
 ·cases hg:DU kv i with
  |none=>simpa using hrun
  |some u=>
   have:=hat i .nil;rw[h2 .nil,hg] at this;cases this
 ·cases hg:DU kv i with
  |none=>
   have:=hat i .nil;rw[h2 .nil,hg] at this;simp only[RN,Ci] at qZ;rw[←qZ] at this;cases this
  |some u=>
   have:=hat i .nil;rw[h2 .nil,hg] at this;simp only[RN,Ci] at qZ;rw[←qZ] at this;simp at this;simpa[this] using hrun
theorem G9.update(h:G9 P K w m kv)(hk:P.underlying K=some .string)(ht:P.underlying T=some (.map K E))(i:List UInt8)(hw:i.length≤maxLen)(v:Value)(J2:kv.length < maxLen):
  ∃ w',(Instr.mapUpdate T (.map (some m)) (.string (bs i)) v).run P w=.ok () w'∧G9 P K w' m (Rc i v kv)∧w.grownBy w' (some m):=by
 obtain⟨hn,D,hown,V6,BQ,hat⟩:=h;obtain⟨w',hrun,Cb,hg⟩:=hown.update (string_keyed hk) ht J2 (key:=.string (bs i)) (val:=v) (vO hk hw) (d:=.held v) (ps:=[]) rfl;have JJ:size (D.put (.string i) (.held v))=(Rc i v kv).length:=by
  rw[size_put V6,jV (hat i),BQ];have:=anz (i:=i) hn;simp only[Rc,BG];cases QM:(DU kv i).isSome<;>simp[QM] at this ⊢ <;>omega
 refine⟨w',hrun,⟨aAL hn,_,?_,V6.put (show WideAt.IsKeyLit (.string i) from trivial) _,JJ,fun j z=>?_⟩,hg⟩
 ·obtain⟨es,clock,hb,F,_,hD⟩:=Cb;refine⟨es,clock,hb,F,?_,hD⟩;rw[←JJ,hD,size_eq,length_sorted];simp
 ·by_cases e:j=i
  ·subst e;rw[atKey_put_same V6.isMap (show WideAt.IsKeyLit (.string j) from trivial),anE]
  ·rw[atKey_put_other (fun e'=>e (by cases e';rfl)),anD e];exact hat j z
theorem G9.delete(h:G9 P K w m kv)(hk:P.underlying K=some .string)(ht:P.underlying T=some (.map K E))(i:List UInt8)(hw:i.length≤maxLen)(ty:TypeId):
  ∃ w',(Builtin.delete_ #[T,K] ty #[.map (some m),.string (bs i)]).run P w=.ok (.tuple #[]) w'∧G9 P K w' m (Jb i kv)∧w.grownBy w' (some m):=by
 obtain⟨hn,D,hown,V6,BQ,hat⟩:=h;obtain⟨es,clock,hb,F,hs,hD⟩:=hown;obtain⟨es',hrun,F',hle,rR,_⟩:=Maps.fit_drop (ty:=ty) (string_keyed hk) ht hb F (vO hk hw);have hD':D.del (.string i)=.map ((es'.toList.map (WideElems.rg P K RN)).foldr DataW.insert []):=by rw[hD,DataW.del_eq,rR]
 have JJ:size (D.del (.string i))=(Jb i kv).length:=by
  have h1:=size_del (k:=.string i) V6;rw[jV (hat i),BQ] at h1;have:=anz (i:=i) hn;cases QM:(DU kv i).isSome<;>simp[QM] at this h1<;>omega
 refine⟨_,hrun,⟨anA hn,D.del (.string i),⟨es',clock,ChangeMaps.heap_setBlock_same hb _,F',?_,hD'⟩,V6.del _,JJ,fun j z=>?_⟩,⟨rfl,rfl,rfl,by simp[ChangeMaps.setBlock],fun k _ hk'=>ChangeMaps.heap_setBlock_other hb _ (fun e=>hk' (by rw[e]))⟩⟩
 ·rw[←JJ,hD',size_eq,length_sorted];simp
 ·by_cases e:j=i
  ·subst e;rw[atKey_del_same,aAK]
  ·rw[atKey_del_other (fun e'=>e (by cases e';rfl)),anB e];exact hat j z
end
end
section
open Go.RowKit Go.Maps
open Av
theorem adY(s:List UInt8)(w:World)(hs:s.length≤100000000):
  Calls prog 163 #[.string (bs s)] w fun e w'=>e=.returned (.string (bs (pad s)))∧Bw w w':=by
 obtain⟨N,hN⟩:∃ N:Nat,N=(s.length+63) / 64*64:=⟨_,rfl⟩;have hq:((s.length:Int)+64 -1) / 64*64=(N:Int):=by omega
 obtain⟨m,hm⟩:∃ m:Nat,m=N -s.length:=⟨_,rfl⟩;have LJ:(N:Int) -(s.length:Int)=(m:Int):=by omega
 have abC:Hid (pad s=s++List.replicate m 0):=Hi (by unfold pad;rw[←hN,←hm]);have ZN:m≤100:=by omega
 have LK:N≤100000100:=by omega
 obtain⟨C,NY,Af⟩:=aob w m (by omega);have av7:=aP prog (w.alloc (.cells C 5)) 54 5 9 underlying54 underlying5 underlying9 w.heap.size 0 m m (List.replicate m 0) List.length_replicate (fun i h=>by rw[Ha];exact Af.cell i h);clear Af hN hm
 go_in
 go_wp2;go_ret;rw[abC.out];exact⟨rfl,(Ai _ _).alloc (Ae _) _⟩
theorem lU(gen used:Nat)(w:World)(hg:gen < 18446744073709551616)(hu:used < 4294967296):
  Calls prog 147 #[.int .u64 gen,.int .i64 used] w fun e w'=>e=.returned (.string (bs (Av.mark gen used)))∧Bw w w':=by
 have HG:=Hi hg;have Et:(used:Int)≤4294967295:=by omega
 have kQ:({ data:=#[76,79,71,49] }:ByteArray)=bs [76,79,71,49]:=rfl;clear hg
 go_in
 go_wp2_with fail;refine(aJ gen 8 _ (by have:=HG.out;exact this) (by decide) (by decide)).mono ?_;rintro e w1⟨rfl,Aj⟩;have HB1:=Hi Aj;clear Aj;go_wp2_with fail;refine(aJ used 4 _ hu (by decide) (by decide)).mono ?_;rintro e w2⟨rfl,Ac⟩;have Ak:=bH HB1 Ac;clear Ac;go_wp2_with fail;refine(gF (76 :: 79 :: 71 :: 49 :: (A9.le 8 gen++A9.le 4 used)) _ (by simp[A9.C9])).mono ?_;rintro e w3⟨rfl,Ap⟩;have Au:=bH Ak Ap;clear Ap;go_wp2_with fail;refine(adY (A9.Fx (76 :: 79 :: 71 :: 49 :: (A9.le 8 gen++A9.le 4 used))) _ (by rw[A9.Sl];simp[A9.C9])).mono ?_;rintro e w4⟨rfl,AB⟩;have AX:=bH Au AB;clear AB;go_wp2;go_ret;exact⟨rfl,AX⟩
def JD(l:List (List UInt8)):List UInt8×Int:=match I4 l with|none=>([],5)|some t=>(t,0)
theorem vB{l:List (List UInt8)}{s:List UInt8}(h:GN l=some s):s.length=rowLen l:=by
 unfold GN at h;split at h
 ·cases h1:BK l with
  |none=>rw[h1] at h;cases h
  |some a=>
   rw[h1] at h;simp at h;subst h;have:=WO h1;simp[A9.C9];omega
 ·cases h
theorem dD(l:List (List UInt8))(a:Option Addr)(cap:Nat)(w:World)(hl:Du w a l)(hlen:l.length≤maxLen)(D7:rowLen l≤10000000):
  Calls prog 134 #[.slice a l.length cap] w fun e w'=>e=.returned (.tuple #[.string (bs (JD l).1),.int .i64 (JD l).2])∧Bw w w':=by
 have HL:=Hi hl;have Fy:=Hi hlen;clear hl hlen;cases hr:GN l with
 |none=>
  have hR:D8 l=([],5):=by unfold D8;rw[hr]
  have hG:JD l=([],5):=by unfold JD I4;rw[hr];rfl
  have HR:=Hi hR;rw[hG];clear hr hR hG
  go_in
  go_wp2_with fail;refine(am8 l a cap w HL Fy (by omega)).mono ?_;rw[HR.out];rintro e w1⟨rfl,hb⟩;have HB:=Hi hb;clear hb;go_wp2;go_ret2;exact⟨rfl,HB⟩
 |some s=>
  have hR:D8 l=(s,0):=by unfold D8;rw[hr]
  have hG:JD l=(pad (A9.le 4 s.length++s),0):=by unfold JD I4;rw[hr];rfl
  have CG:=vB hr;have VG:=Hi D7;have HR:=Hi hR;rw[hG];clear hr hR hG;rw[←CG] at D7;clear CG
  go_in
  go_wp2_with fail;refine(am8 l a cap w HL Fy (by have:=VG.out;omega)).mono ?_;rw[HR.out];rintro e w1⟨rfl,hb⟩;have HB:=Hi hb;clear hb;go_wp2_with fail;refine(aJ s.length 4 _ (by omega) (by decide) (by decide)).mono ?_;rintro e w2⟨rfl,Ac⟩;have Ak:=bH HB Ac;clear Ac;go_wp2_with fail;refine(adY (A9.le 4 s.length++s) _ (by simp[A9.C9];omega)).mono ?_;rintro e w3⟨rfl,Ap⟩;have Au:=bH Ak Ap;clear Ap;go_wp2;go_ret2;exact⟨rfl,Au⟩
end
section
open Go.RowKit Go.Maps
open Av
theorem O7(P:Program)(W:World)(t:TypeId)(hu:P.underlying t=some .string)(s:List UInt8)(hi:Nat)(h2:hi≤s.length):
  (Instr.slice t (.string (bs s)) none (some (.int .i64 (hi:Int))) none).run P W=.ok (.string (bs (s.take hi))) W:=by
 have g2:(hi:Int)≤(s.length:Int):=by omega
 simp[Instr.slice,Hd hu,Instr.sliceBounds,run_sliceBound,go_sem,g2]
theorem ani(P:Program)(W:World)(t:TypeId)(hu:P.underlying t=some .string)(s:List UInt8)(lo hi:Nat)(h1:lo≤hi)(h2:hi≤s.length):
  (Instr.slice t (.string (bs s)) (some (.int .i64 (lo:Int))) (some (.int .u64 (hi:Int))) none).run P W=.ok (.string (bs ((s.take hi).drop lo))) W:=by
 have g2:(hi:Int)≤(s.length:Int):=by omega
 simp[Instr.slice,Hd hu,Instr.sliceBounds,run_sliceBound,go_sem,h1,g2]
theorem vS{w:World}{base:Nat}{v:Value}{l:List (List UInt8)}(h:w.ownsRow base 9 1 v l.length (strCells l)):∃ a cap,v=.slice a l.length cap∧Du w a l:=by
 rcases h.2 with⟨e1,e2⟩|⟨g,cap,cur,e1,_⟩
 ·exact⟨none,0,by rw[e1,e2],fun i hi=>by omega⟩
 ·subst e1;refine⟨_,cap,rfl,fun i hi=>⟨⟨g,0,none⟩,rfl,?_⟩⟩;exact h.cells (g:=g) rfl i _ (YA l i hi)
def bW(w:World)(s:List UInt8)(e:Ending)(w':World):Prop:=
 match L8 s with
 |none=>e=.returned (.tuple #[.slice none 0 0,.int .i64 0,.bool false])∧Bw w w'
 |some (l,k)=>∃ v,e=.returned (.tuple #[v,.int .i64 (k:Int),.bool true])∧w'.ownsRow 0 9 1 v l.length (strCells l)∧Bw w w'∧∀ g,v.ownBlock=some g→w.heap.size≤g
theorem uH{w w':World}{s:List UInt8}{e:Ending}(h:L8 s=none)(he:e=.returned (.tuple #[.slice none 0 0,.int .i64 0,.bool false]))(hb:Bw w w'):bW w s e w':=by
 unfold bW;rw[h];exact⟨he,hb⟩
theorem ayx{w w':World}{s:List UInt8}{l:List (List UInt8)}{k:Nat}{e:Ending}{v:Value}(h:L8 s=some (l,k))(he:e=.returned (.tuple #[v,.int .i64 (k:Int),.bool true]))(ho:w'.ownsRow 0 9 1 v l.length (strCells l))(hb:Bw w w')(hg:∀ g,v.ownBlock=some g→w.heap.size≤g):bW w s e w':=by
 unfold bW;rw[h];exact⟨v,he,ho,hb,hg⟩
theorem aud{s:List UInt8}{l:List (List UInt8)}(h4:4≤s.length)(hv:A9.val (s.take 4)≤s.length -4)(h:Dp ((s.take (4+A9.val (s.take 4))).drop 4)=some l):I4 l=some (pad (s.take (4+A9.val (s.take 4))))∧rowLen l=A9.val (s.take 4):=by
 have hr:=mG h;have hl:((s.take (4+A9.val (s.take 4))).drop 4).length=A9.val (s.take 4):=by rw[Ct,AZ];omega
 refine⟨?_,by rw[←vB hr,hl]⟩;unfold I4;rw[hr];simp only[EK];rw[hl];have e:A9.le 4 (A9.val (s.take 4))=s.take 4:=by
  have:=A9.lN (s.take 4);rwa[AZ,Ih h4] at this
 rw[e];generalize A9.val (s.take 4)=v at*;have h3:s.take 4=(s.take (4+v)).take 4:=by rw[List.take_take,Ih (by omega)]
 rw[h3,MK]
theorem ayy(s:List UInt8)(w:World)(hs:s.length≤10000000)(VY:s.length % 64=0):
  Calls prog 164 #[.string (bs s)] w fun e w'=>bW w s e w':=by
 by_cases h0:s.length < 64
 ·have hN:Hid (L8 s=none):=Hi (by unfold L8;rw[Ad h0])
  go_in
  go_wp2;go_ret3;exact uH hN.out rfl (Ai _ _)
 ·have Mr:∀ W,(Instr.slice 9 (.string (bs s)) none (some (.int .i64 4)) none).run prog W=.ok (.string (bs (s.take 4))) W:=fun W=>O7 prog W 9 underlying9 s 4 (by omega)
  have KW:(s.take 4).length=4:=by rw[AZ];omega
  have hv:=A9.JS (s.take 4);rw[KW] at hv;have NS:=fun(W:World)=>XA (s.take 4) W (by omega) (by omega)
  have hG:=fun(l:List (List UInt8))=>@aud s l
  have QF:L8 s=if A9.val (s.take 4)≤s.length -4 then
   (Dp ((s.take (4+A9.val (s.take 4))).drop 4)).bind fun l=>
    if pad (s.take (4+A9.val (s.take 4)))=s.take (pad (s.take (4+A9.val (s.take 4)))).length then some (l,(pad (s.take (4+A9.val (s.take 4)))).length) else none
   else none:=by unfold L8;rw[Ab h0]
  generalize A9.val (s.take 4)=v at*;have ac1:v < 4294967296:=hv;have Lp:=Hi NS;have HG:=Hi hG;have Kk:IntKind.u64.wrap ((s.length:Int) -4)=(s.length:Int) -4:=IntWalk.u64_in _ (by omega);clear KW hv NS hG;by_cases Yh:v≤s.length -4
  ·rw[Ad Yh] at QF;have hvi:(v:Int)≤(s.length:Int) -4:=(by omega);have LX:IntKind.u64.wrap (4+(v:Int))=4+(v:Int):=IntWalk.u64_in _ (by omega);have hcu:∀ W,(Instr.slice 9 (.string (bs s)) (some (.int .i64 4)) (some (.int .u64 (4+(v:Int)))) none).run prog W=.ok (.string (bs ((s.take (4+v)).drop 4))) W:=fun W=>by
    have:=ani prog W 9 underlying9 s 4 (4+v) (by omega) (by omega);rw[Int.natCast_add] at this;exact this
   cases hr:Dp ((s.take (4+v)).drop 4) with
   |none=>
    have hN:Hid (L8 s=none):=Hi (by rw[QF,hr];rfl);have HR:=Hi hr;clear QF hr
    go_in
    go_wp2_with fail;refine(Lp _).mono ?_;rintro e w1⟨rfl,rfl⟩;go_wp2_with fail;refine(mF ((s.take (4+v)).drop 4) _ (by rw[Ct,AZ];omega)).mono ?_;intro e w1 hp;unfold Mj at hp;rw[HR.out] at hp;obtain⟨rfl,hb⟩:=hp;have HB:=Hi hb;clear hb;go_wp2;go_ret3;exact uH hN.out rfl HB.out
   |some l=>
    obtain⟨Jj,LU⟩:=HG l (by omega) Yh hr;have Nc:JD l=(pad (s.take (4+v)),0):=(by unfold JD;rw[Jj]);have HGV:=Hi Nc;have HR:=Hi hr;have Il:=Hi LU;rw[hr] at QF;simp only[CL] at QF;have O0:(pad (s.take (4+v))).length≤s.length:=(by rw[Sg,AZ];omega);have hct:∀ W,(Instr.slice 9 (.string (bs s)) none (some (.int .i64 ((pad (s.take (4+v))).length:Int))) none).run prog W=.ok (.string (bs (s.take (pad (s.take (4+v))).length))) W:=fun W=>O7 prog W 9 underlying9 s _ O0
    have El:l.length≤100000000:=by
     have:=Il.out;unfold rowLen at this;have h2:∀ (l:List (List UInt8)),l.length≤(l.map fun s=>2+s.length).sum:=by
      intro l
      induction l with
      |nil=>simp
      |cons x l ih=>simp;omega
     have:=h2 l;omega
    clear hr Nc Jj LU;generalize pad (s.take (4+v))=t at*;by_cases J3:t=s.take t.length
    ·rw[Ad J3] at QF;have Di:=Hi QF;have hbt:(t == s.take t.length)=true:=(by rw[←J3];simp);have Uk:=Hi J3;clear QF J3
     go_in
     go_wp2_with fail;refine(Lp _).mono ?_;rintro e w1⟨rfl,rfl⟩;go_wp2_with fail;refine(mF ((s.take (4+v)).drop 4) _ (by rw[Ct,AZ];omega)).mono ?_;intro e w1 hp;unfold Mj at hp;rw[HR.out] at hp;obtain⟨vv,rfl,ho,hb,hn⟩:=hp;obtain⟨qa,ca,rfl,H8⟩:=vS ho;have HB:=Hi hb;have HO:=Hi ho;have HN:=Hi hn;have Z9:=Hi H8;clear hb ho hn H8;go_wp2_with fail;refine(dD l qa ca _ Z9 (by unfold maxLen;omega) (by rw[Il.out];omega)).mono ?_;rw[HGV.out];rintro e w2⟨rfl,Ac⟩;have Ak:=Hi Ac;clear Ac;go_wp2;go_ret3;exact ayx Di rfl (Bv HO (ub Ak) (fun _ _ f=>f)) (bT HB Ak) HN.out
    ·rw[Ab J3] at QF;have Di:=Hi QF;have hbt:(t == s.take t.length)=false:=(by simp[J3]);have Uk:=Hi J3;clear QF J3
     go_in
     go_wp2_with fail;refine(Lp _).mono ?_;rintro e w1⟨rfl,rfl⟩;go_wp2_with fail;refine(mF ((s.take (4+v)).drop 4) _ (by rw[Ct,AZ];omega)).mono ?_;intro e w1 hp;unfold Mj at hp;rw[HR.out] at hp;obtain⟨vv,rfl,ho,hb,hn⟩:=hp;obtain⟨qa,ca,rfl,H8⟩:=vS ho;have HB:=Hi hb;have HO:=Hi ho;have HN:=Hi hn;have Z9:=Hi H8;clear hb ho hn H8;go_wp2_with fail;refine(dD l qa ca _ Z9 (by unfold maxLen;omega) (by rw[Il.out];omega)).mono ?_;rw[HGV.out];rintro e w2⟨rfl,Ac⟩;have Ak:=Hi Ac;clear Ac;go_wp2;go_ret3;exact uH Di rfl (bT HB Ak)
  ·have hN:Hid (L8 s=none):=Hi (by rw[QF,Ab Yh]);have hvi:(s.length:Int) -4 < (v:Int):=(by omega);clear QF
   go_in
   go_wp2_with fail;refine(Lp _).mono ?_;rintro e w1⟨rfl,rfl⟩;go_wp2;go_ret3;exact uH hN.out rfl (Ai _ _)
end
section
open Go.RowKit Go.Maps
end
section
open Go.RowKit Go.Maps
section
variable {B:Nat}{w0 w:World}{b:Nat}{D:A8}{fp:Nat→Prop}
end
end
section
open Go.RowKit Go.WideShapes Go.ChangeShapes Go.Deep
theorem lQ{α:Type}{P:Nat→α→Prop}:∀ (n:Nat),(∀ i,i < n→∃ x,P i x)→∃ l:List α,l.length=n∧∀ i,(h:i < l.length)→P i l[i]
 |0,_=>⟨[],rfl,fun i hi=>by simp at hi⟩
 |n+1,h=>by
  obtain⟨l,hl,hp⟩:=lQ n (fun i hi=>h i (by omega));obtain⟨x,hx⟩:=h n (by omega);refine⟨l++[x],by simp[hl],fun i hi=>?_⟩;by_cases D6:i < l.length
  ·rw[Sw D6];exact hp i D6
  ·have:i=l.length:=(by simp at hi;omega);subst this;rw[Vo (Ae _)];simp;rw[hl];exact hx
theorem wH{H:Type}{P:Program}{e:TypeId}{x:DataW H}{l:List (DataW H)}(h:x∈l){n:Nat}(hn:n∈DataW.weights P e x):n∈DataW.weightsAll P e l:=by
 induction l with
 |nil=>simp at h
 |cons y l ih=>
  simp only[DataW.weightsAll,Eh];rcases Cc.1 h with rfl|h
  ·exact .inl hn
  ·exact .inr (ih h)
theorem WK{cs:List Value}{n:Nat}(hl:cs.length=n)(j:Nat)(hj:j < n):(cs.drop j).take 1=[cs[j]'(by omega)]:=by
 rw[Rk (by omega)];rfl
end
section
open Go.RowKit Go.WideShapes Go.ChangeShapes Go.Deep
end
section
open Go.RowKit Go.Maps
end
section
open Go.RowKit Go.Maps
end
section
open Go.RowKit Go.Maps
section
variable {B:Nat}{w0 w w':World}{b r:Nat}{D D' R R':A8}{fp fp' fr fr':Nat→Prop}
end
section
variable {B:Nat}{w0 w:World}{b r:Nat}{D R:A8}{fp fr:Nat→Prop}
end
end
section
open Go.RowKit Go.Maps
section
variable {B:Nat}{w0 w:World}{b r:Nat}{D R:A8}{fp fr:Nat→Prop}
end
end
section
namespace A8
theorem aCP(D:A8)(a:Nat)(s:List UInt8)(n:Nat):(writes D a s n).1.loose.length≤D.loose.length+n:=by
 induction n generalizing D a s with
 |zero=>exact Ae _
 |succ n ih=>
  simp only[writes];split
  ·show D.loose.length≤_;omega
  ·have:=ih { D with loose:=D.loose++[(a,s.take 64)],left:=max (D.left -1) (-1) } (a+1) (s.drop 64);have e:(D.loose++[(a,s.take 64)]).length=D.loose.length+1:=(by simp);simp only[e] at this;omega
theorem TY(D:A8)(a:Int)(s:List UInt8):(D.write a s).1.loose.length≤D.loose.length+s.length / 64:=by
 unfold write;split
 ·exact Nat.le_add_right _ _
 ·split
  ·exact aCP _ _ _ _
  ·exact Nat.le_add_right _ _
theorem Uz(D:A8):D.flush.1.loose.length≤D.loose.length:=by unfold flush;split<;>simp
end A8
end
section
open Go.RowKit Go.Maps
end
section
open Go.RowKit Go.Maps
theorem BB.kinds{w:World}{b:Nat}{D:A8}{fp:Nat→Prop}(h:BB w b D fp)(k:Nat)(hk:fp k):¬ Bb w k 9∧¬ Bb w k 61:=by
 obtain⟨m,lv,hI,rfl⟩:=h;have key:∀ t,(t=9∨t=61)→¬ Bb w k t:=by
  rintro t ht⟨cs,fr,hb⟩;rcases hk with rfl|rfl|hk
  ·rw[hI.struct] at hb;injection hb with hb
   injection hb with _ hb _
   subst hb;rcases ht with ht|ht<;>cases ht
  ·obtain⟨kv,⟨_,D',⟨es,clock,hm,_⟩,_⟩,_⟩:=hI.base;rw[hm] at hb;injection hb with hb
   cases hb
  ·rcases hI.loose.2 with⟨e1,_⟩|⟨g,cap,cur,e1,_,hg,_⟩
   ·subst e1;simp[Value.ownBlock] at hk
   ·subst e1;simp[Value.ownBlock] at hk;subst hk;rw[hg] at hb;injection hb with hb
    injection hb with _ hb _
    subst hb;rcases ht with ht|ht<;>cases ht
 exact⟨key _ (.inl rfl),key _ (.inr rfl)⟩
section
variable {B:Nat}{w0 w w':World}{b g1 g2 n:Nat}{D D':A8}{fp fp':Nat→Prop}{A K:List (List (List UInt8))}
end
end
section
open Go.RowKit Go.Maps
open Av
def Jy(w:World)(v:Value)(l:List (List UInt8)):Prop:=
 ∃ a cap,v=.slice a l.length cap∧∀ i (h:i < l.length),∃ g o,a=some ⟨g,o,none⟩∧Bb w g 9∧w.cell? ⟨g,o+i,none⟩=some (.string (bs l[i]))
theorem Jy.upd{F:Nat→Prop}{w w':World}{v:Value}{l:List (List UInt8)}(h:Jy w v l)(hu:A7 F w w')(hF:∀ k,Bb w k 9→¬ F k):Jy w' v l:=by
 obtain⟨a,cap,e,h⟩:=h;refine⟨a,cap,e,fun i hi=>?_⟩;obtain⟨g,o,e1,e2,e3⟩:=h i hi;exact⟨g,o,e1,e2.upd hu (hF g e2),(hu.cell (p:=⟨g,o+i,none⟩) e2.lt (hF g e2)).trans e3⟩
theorem Jy.texts{w:World}{v:Value}{l:List (List UInt8)}(h:Jy w v l):∃ a cap,v=.slice a l.length cap∧Du w a l:=by
 obtain⟨a,cap,e,h⟩:=h;refine⟨a,cap,e,fun i hi=>?_⟩;obtain⟨g,o,e1,_,e3⟩:=h i hi;exact⟨⟨g,o,none⟩,e1,by rw[VP];exact e3⟩
theorem Jy.CX{w:World}{base:Nat}{v:Value}{l:List (List UInt8)}(h:w.ownsRow base 9 1 v l.length (strCells l)):Jy w v l:=by
 rcases h.2 with⟨e1,e2⟩|⟨g,cap,cur,e1,_,hg,_⟩
 ·exact⟨none,0,by rw[e1,e2],fun i hi=>by omega⟩
 ·subst e1;refine⟨_,cap,rfl,fun i hi=>⟨g,0,rfl,⟨_,_,hg⟩,?_⟩⟩;have:=h.cells (g:=g) rfl i _ (YA l i hi);rw[add_plain] at this;rw[Ha];exact this
def Kw(w:World)(v:Value)(L:List (List (List UInt8))):Prop:=
 ∃ cs:List Value,w.ownsRow 0 61 1 v L.length cs∧cs.length=L.length∧(∀ u∈cs,u.oneCell'=true)∧∀ i (h:i < L.length) (h':i < cs.length),Jy w cs[i] L[i]
theorem Kw.upd{F:Nat→Prop}{w w':World}{v:Value}{L:List (List (List UInt8))}(h:Kw w v L)(hu:A7 F w w')(hF:∀ k,Bb w k 9→¬ F k)(hG:∀ g,v.ownBlock=some g→¬ F g):Kw w' v L:=by
 obtain⟨cs,h1,h2,h3,h4⟩:=h;exact⟨cs,Bv h1 hu hG,h2,h3,fun i hi rZ=>(h4 i hi rZ).upd hu hF⟩
theorem Kw.none(w:World):Kw w (.slice none 0 0) []:=⟨[],DZ _ _ _ _,rfl,by simp,fun i hi=>by simp at hi⟩
structure BD where
 from_:Nat
 n:Nat
 gen:Nat
 used:Nat
 groups:List (List (List UInt8))
 fault:Int
def aox(L:BD)(b:Nat)(gv:Value):Array Value:=#[.int .u64 (L.gen:Int),.int .i64 (L.used:Int),.pointer (some ⟨b,0,none⟩),.int .i64 (L.from_:Int),.int .i64 (L.n:Int),gv,.int .i64 L.fault]
structure Cm(w:World)(x b:Nat)(gv:Value)(L:BD):Prop where
 struct:w.heap[x]?=some (.cells (aox L b gv) 224)
 groups:Kw w gv L.groups
 gen:L.gen < 18446744073709551616
 used:L.used+1≤L.n
 n:L.from_+L.n≤16384
def BS(x:Nat)(gv:Value)(k:Nat):Prop:=k=x∨gv.ownBlock=some k
theorem Cm.cells{w:World}{x b:Nat}{gv:Value}{L:BD}(h:Cm w x b gv L):
  w.cell? ⟨x,0,none⟩=some (.int .u64 (L.gen:Int))∧w.cell? ⟨x,1,none⟩=some (.int .i64 (L.used:Int))∧w.cell? ⟨x,2,none⟩=some (.pointer (some ⟨b,0,none⟩))∧w.cell? ⟨x,3,none⟩=some (.int .i64 (L.from_:Int))∧
  w.cell? ⟨x,4,none⟩=some (.int .i64 (L.n:Int))∧w.cell? ⟨x,5,none⟩=some gv∧w.cell? ⟨x,6,none⟩=some (.int .i64 L.fault)∧∀ j,w.frozen? ⟨x,j,none⟩=false:=by
 refine⟨?_,?_,?_,?_,?_,?_,?_,fun j=>Dt w x j _ _ h.struct⟩<;>rw[BL w x _ _ _ _ h.struct]<;>rfl
theorem Cm.lt{w:World}{x b:Nat}{gv:Value}{L:BD}(h:Cm w x b gv L):∀ k,BS x gv k→k < w.heap.size:=by
 rintro k (rfl|hk)
 ·exact Ao h.struct
 ·obtain⟨cs,h1,_⟩:=h.groups;exact aH h1 hk
theorem Cm.ne{w:World}{x b:Nat}{gv:Value}{L:BD}(h:Cm w x b gv L):gv.ownBlock≠some x:=fun e=>by
 obtain⟨cs,h1,_⟩:=h.groups;exact Bb.ne (Cn h1 e) ⟨_,_,h.struct⟩ (by decide) rfl
theorem Cm.upd{F:Nat→Prop}{w w':World}{x b:Nat}{gv:Value}{L:BD}(h:Cm w x b gv L)(hu:A7 F w w')(hF:∀ k,Bb w k 9→¬ F k)(hG:∀ k,BS x gv k→¬ F k):Cm w' x b gv L:=
 ⟨(hu.block x (Ao h.struct) (hG x (.inl rfl))).trans h.struct,h.groups.upd hu hF (fun g hg=>hG g (.inr hg)),h.gen,h.used,h.n⟩
theorem Cm.below{w w':World}{x b:Nat}{gv:Value}{L:BD}(h:Cm w x b gv L)(hb:Bw w w'):Cm w' x b gv L:=h.upd (ub hb) (fun _ _ f=>f) (fun _ _ f=>f)
theorem BB.axh{w:World}{b:Nat}{D:A8}{fp:Nat→Prop}(h:BB w b D fp)(k:Nat)(hk:fp k):¬ Bb w k 224:=by
 obtain⟨m,lv,hI,rfl⟩:=h;rintro⟨cs,fr,hb⟩;rcases hk with rfl|rfl|hk
 ·rw[hI.struct] at hb;injection hb with hb
  injection hb with _ hb _
  cases hb
 ·obtain⟨kv,⟨_,D',⟨es,clock,hm,_⟩,_⟩,_⟩:=hI.base;rw[hm] at hb;injection hb with hb
  cases hb
 ·rcases hI.loose.2 with⟨e1,_⟩|⟨g,cap,cur,e1,_,hg,_⟩
  ·subst e1;simp[Value.ownBlock] at hk
  ·subst e1;simp[Value.ownBlock] at hk;subst hk;rw[hg] at hb;injection hb with hb
   injection hb with _ hb _
   cases hb
theorem Cm.disk{w w':World}{x b b':Nat}{gv:Value}{L:BD}{D:A8}{fp:Nat→Prop}(h:Cm w x b gv L)(hd:BB w b' D fp)(hu:A7 fp w w'):Cm w' x b gv L:=
 h.upd hu (fun k hk hf=>(hd.kinds k hf).1 hk) (fun k hk hf=>by
  rcases hk with rfl|hk
  ·exact hd.axh k hf ⟨_,_,h.struct⟩
  ·obtain⟨cs,h1,_⟩:=h.groups;exact(hd.kinds k hf).2 (Cn h1 hk))
theorem Jy.one{w:World}{v:Value}{l:List (List UInt8)}(h:Jy w v l):v.oneCell'=true:=by
 obtain⟨a,cap,rfl,_⟩:=h;rfl
theorem Cm.pushed{w w1 w2:World}{x b:Nat}{gv lv v':Value}{L:BD}{l:List (List UInt8)}{cs:List Value}(h:Cm w x b gv L)(hl:Jy w lv l)
  (BN:cs.length=L.groups.length)(GH:∀ u∈cs,u.oneCell'=true)(UL:∀ i (h:i < L.groups.length) (h':i < cs.length),Jy w cs[i] L.groups[i])
  (hb:Bw w w1)(AJ:w1.grownBy w2 gv.ownBlock)(hown:w2.ownsRow 0 61 1 v' (L.groups.length+1) (cs++[lv]))(hat:v'.ownBlock=gv.ownBlock∨v'.ownBlock=some w1.heap.size):
  Cm (w2.setCell ⟨x,5,none⟩ v') x b v' { L with groups:=L.groups++[l] }∧A7 (BS x gv) w (w2.setCell ⟨x,5,none⟩ v')∧Dj (BS x gv) (BS x v') w:=by
 have hx:=Ao h.struct;have BQ:=hb.size;have u1:A7 (fun k=>gv.ownBlock=some k) w w2:=(A7.of_below hb).trans (A7.of_grownBy (F:=fun k=>gv.ownBlock=some k) AJ (fun k e=>e)) (fun k hk=>.inl hk);have Mx:w2.heap[x]?=some (.cells (aox L b gv) 224):=(u1.block x hx (fun e=>h.ne e)).trans h.struct;have NR:∀ k,Bb w k 9→¬ gv.ownBlock=some k:=fun k hk e=>by
  obtain⟨cs',h1,_⟩:=h.groups;exact Bb.ne hk (Cn h1 e) (by decide) rfl
 have JK:v'.ownBlock≠some x:=fun e=>by
  rcases hat with hat|hat
  ·exact h.ne (by rw[←hat,e])
  ·rw[e] at hat;have:=GQ hat;omega
 have c1:A7 (fun k=>k=x) w2 (w2.setCell ⟨x,5,none⟩ v'):=(A7.refl (fun k=>k=x) w2).setCell (p:=⟨x,5,none⟩) (.inl rfl) _;have keep:∀ v l,Jy w v l→Jy (w2.setCell ⟨x,5,none⟩ v') v l:=fun v l hr=>(hr.upd u1 NR).upd c1 (fun k hk e=>by subst e;exact Bb.ne hk ⟨_,_,Mx⟩ (by decide) rfl)
 refine⟨⟨Cu w2 x 5 _ _ v' Mx,⟨cs++[lv],?_,by simp[BN],?_,fun i hi rZ=>?_⟩,h.gen,h.used,h.n⟩,?_,?_⟩
 ·show World.ownsRow _ 0 _ 1 v' (L.groups++[l]).length _
  rw[AA];exact Bv hown c1 (fun g hg e=>JK (by rw[hg,e]))
 ·intro u hu;rcases Eh.1 hu with hu|hu
  ·exact GH u hu
  ·rw[FJ] at hu;subst hu;exact hl.one
 ·by_cases hlt:i < L.groups.length
  ·show Jy _ _ (L.groups++[l])[i]
   rw[Sw (by omega),Sw hlt];exact keep _ _ (UL i hlt (by omega))
  ·have JG:i < (L.groups++[l]).length:=hi;rw[AA,Le] at JG;have e:i=L.groups.length:=by omega
   show Jy _ _ (L.groups++[l])[i]
   rw[Vo (by omega),Vo (by omega)];simp only[List.getElem_singleton];exact keep _ _ hl
 ·exact(u1.mono (fun k e=>.inr e)).setCell (p:=⟨x,5,none⟩) (.inl (.inl rfl)) _
 ·rintro k (rfl|hk)
  ·exact .inl (.inl rfl)
  ·rcases hat with hat|hat
   ·exact .inl (.inr (by rw[←hat];exact hk))
   ·rw[hat] at hk;have:=GQ hk;exact .inr (by omega)
end
namespace Av
open A9 (le val Fx)
theorem YF(n v:Nat)(h:v < 256 ^ n):val (le n v)=v:=by rw[A9.wy,Nat.mod_eq_of_lt h]
theorem azH{t a:List UInt8}(R:List UInt8)(h:Eg t=some a):Fv (a++R)=some (t,a.length):=by
 unfold Eg at h;split at h
 ·rename_i hl
  simp only[Ci] at h;subst h;have h1:(le 2 t.length).length=2:=A9.C9 _ _;have h2:((le 2 t.length++t)++R).take 2=le 2 t.length:=by rw[Dz,IU h1]
  unfold Fv;rw[Ab (by simp[h1]),h2,YF 2 _ (by show t.length < 65536;omega),Ad (by simp[h1])];have h3:((le 2 t.length++t)++R).take (2+t.length)=le 2 t.length++t:=IU (by simp[h1]);rw[h3,MI h1];simp[h1]
 ·cases h
theorem amP:∀ (l:List (List UInt8)) (a R:List UInt8),BK l=some a→Ez l.length (a++R)=some (l,R)
 |[],a,R,h=>by
  simp only[BK,Ci] at h;subst h;rfl
 |t :: l,a,R,h=>by
  simp only[BK] at h;cases h1:Eg t with
  |none=>rw[h1] at h;cases h
  |some x=>
   rw[h1] at h;simp only[CL] at h;cases h2:BK l with
   |none=>rw[h2] at h;cases h
   |some y=>
    rw[h2] at h;simp only[EK,Ci] at h;subst h;simp only[BG,Ez];rw[Dz,azH _ h1];simp only[CL];rw[MI rfl,amP l y R h2];rfl
theorem amO{l:List (List UInt8)}{a:List UInt8}(h:GN l=some a):Dp a=some l:=by
 unfold GN at h;split at h
 ·rename_i hl
  cases h1:BK l with
  |none=>rw[h1] at h;cases h
  |some y=>
   rw[h1] at h;simp only[EK,Ci] at h;subst h;have h2:(le 2 l.length).length=2:=A9.C9 _ _;unfold Dp;rw[Ab (by simp[h2]),IU h2,YF 2 _ (by show l.length < 65536;omega),MI h2];have:=amP l y [] h1;rw[Ea] at this;rw[this];rfl
 ·cases h
theorem qO{l:List (List UInt8)}{s:List UInt8}(h:I4 l=some s):∃ a,GN l=some a∧s=pad (le 4 a.length++a):=by
 unfold I4 at h;cases h1:GN l with
 |none=>rw[h1] at h;cases h
 |some a=>
  rw[h1] at h;simp only[EK,Ci] at h;exact⟨a,rfl,h.symm⟩
theorem jC{l:List (List UInt8)}{s:List UInt8}(h:I4 l=some s):s.length % 64=0∧64≤s.length:=by
 obtain⟨a,_,rfl⟩:=qO h;have:=Sg (le 4 a.length++a);simp only[AA,A9.C9] at this;constructor
 ·exact ame _
 ·rw[this];omega
theorem ayu{l:List (List UInt8)}{s:List UInt8}(h:I4 l=some s)(hb:s.length < 4294967296)(R:List UInt8):L8 (s++R)=some (l,s.length):=by
 obtain⟨VY,h0⟩:=jC h;obtain⟨a,ha,rfl⟩:=qO h;have KW:(le 4 a.length).length=4:=A9.C9 _ _;have FV:=Sg (le 4 a.length++a);rw[AA,KW] at FV;obtain⟨z,hz⟩:∃ z,pad (le 4 a.length++a)=le 4 a.length++a++z:=⟨_,rfl⟩;have e4:(pad (le 4 a.length++a)++R).take 4=le 4 a.length:=by rw[hz,Dz,Dz,IU KW]
 have hv:val (le 4 a.length)=a.length:=YF 4 _ (by show a.length < 4294967296;omega);have e5:(pad (le 4 a.length++a)++R).take (4+a.length)=le 4 a.length++a:=by rw[hz,Dz,IU (by rw[AA,KW])]
 unfold L8;rw[e4,hv,e5,Ab (by rw[AA];omega),Ad (by rw[AA];omega),MI KW,amO ha];simp only[CL];rw[IU rfl,Ad rfl]
def KT:List (List (List UInt8))→Option (List UInt8)
 |[]=>some []
 |l :: L=>(I4 l).bind fun a=>(KT L).map (a++ ·)
theorem aug{L:List (List (List UInt8))}{S:List UInt8}(h:KT L=some S){l:List (List UInt8)}{s:List UInt8}(hl:I4 l=some s):KT (L++[l])=some (S++s):=by
 induction L generalizing S with
 |nil=>
  simp only[KT,Ci] at h;subst h;simp[KT,hl]
 |cons t L ih=>
  simp only[KT] at h;cases h1:I4 t with
  |none=>rw[h1] at h;cases h
  |some a=>
   rw[h1] at h;simp only[CL] at h;cases h2:KT L with
   |none=>rw[h2] at h;cases h
   |some b=>
    rw[h2] at h;simp only[EK,Ci] at h;subst h;simp only[Gt,KT,h1,ih h2,CL,EK,Dz]
theorem ayw{S:List UInt8}{l:List (List UInt8)}{k:Nat}(h:L8 S=some (l,k)):I4 l=some (S.take k):=by
 unfold L8 at h;split at h
 ·cases h
 ·split at h
  ·rename_i h0 hv
   cases h1:Dp ((S.take (4+val (S.take 4))).drop 4) with
   |none=>rw[h1] at h;cases h
   |some q=>
    rw[h1] at h;simp only[CL] at h;split at h
    ·rename_i h3
     simp only[Ci,ML] at h;obtain⟨rfl,rfl⟩:=h;have hr:=mG h1;have hl:((S.take (4+val (S.take 4))).drop 4).length=val (S.take 4):=(by rw[Ct,AZ];omega);unfold I4;rw[hr];simp only[EK];rw[hl];have e:le 4 (val (S.take 4))=S.take 4:=by
      have:=A9.lN (S.take 4);rwa[AZ,Ih (by omega)] at this
     rw[e];have h5:S.take 4++(S.take (4+val (S.take 4))).drop 4=S.take (4+val (S.take 4)):=by
      generalize val (S.take 4)=v at*;have h6:S.take 4=(S.take (4+v)).take 4:=(by rw[List.take_take,Ih (by omega)]);rw[h6,MK]
     rw[h5,←h3]
    ·cases h
  ·cases h
theorem amN:∀ (f:Nat) (S:List UInt8) (L:List (List (List UInt8))),Ja f S=some L→KT L=some S
 |0,S,L,h=>by
  simp only[Ja] at h;split at h
  ·rename_i e
   simp only[Ci] at h;subst h;subst e;rfl
  ·cases h
 |f+1,S,L,h=>by
  simp only[Ja] at h;split at h
  ·rename_i e
   simp only[Ci] at h;subst h;subst e;rfl
  ·cases h1:L8 S with
   |none=>rw[h1] at h;cases h
   |some p=>
    rw[h1] at h;simp only[CL] at h;cases h2:Ja f (S.drop p.2) with
    |none=>rw[h2] at h;cases h
    |some q=>
     rw[h2] at h;simp only[EK,Ci] at h;subst h;have g1:=ayw (l:=p.1) (k:=p.2) h1;have g2:=amN f _ _ h2;simp only[KT,g1,g2,CL,EK,MK]
theorem amM:∀ (L:List (List (List UInt8))) (S:List UInt8) (f:Nat),KT L=some S→S.length≤64*f→S.length < 4294967296→Ja f S=some L
 |[],S,f,h,_,_=>by
  simp only[KT,Ci] at h;subst h;exact amL f
 |l :: L,S,f,h,hf,hb=>by
  simp only[KT] at h;cases h1:I4 l with
  |none=>rw[h1] at h;cases h
  |some a=>
   rw[h1] at h;simp only[CL] at h;cases h2:KT L with
   |none=>rw[h2] at h;cases h
   |some b=>
    rw[h2] at h;simp only[EK,Ci] at h;subst h;obtain⟨g1,g2⟩:=jC h1;rw[AA] at hf hb;obtain⟨f,rfl⟩:∃ f',f=f'+1:=⟨f -1,by omega⟩;have hne:¬ (a++b=[]):=fun e=>by
     have:=congrArg List.length e;rw[AA,Ht] at this;omega
    simp only[Ja,Ab hne,ayu h1 (by omega) b,CL];rw[MI rfl,amM L b f h2 (by omega) (by omega)];rfl
theorem aC(gen used:Nat):∃ z,mark gen used=[76,79,71,49]++(le 8 gen++(le 4 used++z)):=by
 unfold mark pad A9.Fx;generalize List.replicate _ (0:UInt8)=z;generalize le 4 (A9.sum _)=y;exact⟨y++z,by simp only[Dz]⟩
theorem axN(gen used:Nat):((mark gen used).take 12).drop 4=le 8 gen:=by
 obtain⟨z,e⟩:=aC gen used;have h8:(le 8 gen).length=8:=A9.C9 _ _;rw[e];have e1:([76,79,71,49]++(le 8 gen++(le 4 used++z))).take 12=[76,79,71,49]++le 8 gen:=by
  rw[←Dz];exact IU (by rw[AA,h8];rfl)
 rw[e1];exact MI rfl
theorem axP(gen used:Nat):((mark gen used).take 16).drop 12=le 4 used:=by
 obtain⟨z,e⟩:=aC gen used;have h8:(le 8 gen).length=8:=A9.C9 _ _;have h4:(le 4 used).length=4:=A9.C9 _ _;rw[e];have e1:([76,79,71,49]++(le 8 gen++(le 4 used++z))).take 16=([76,79,71,49]++le 8 gen)++le 4 used:=by
  rw[←Dz,←Dz];exact IU (by rw[AA,AA,h8,h4];rfl)
 rw[e1];exact MI (by rw[AA,h8];rfl)
theorem uh(gen used:Nat):mark gen used≠pad [0]:=fun h=>by
 obtain⟨z,e⟩:=aC gen used;rw[e] at h;have:=congrArg (fun l:List UInt8=>l.head?) h
 revert this
 simp[pad]
theorem am6{gen used n:Nat}{L:List (List (List UInt8))}{S R:List UInt8}(hg:gen < 18446744073709551616)(hu:used≤n -1)(hb:used < 60000000)(hL:KT L=some S)(hS:S.length=64*used):
  Jq (mark gen used++(S++R)) n=some (gen,used,L):=by
 have EH:=O4 gen used;have v1:val (le 8 gen)=gen:=YF 8 _ hg;have v2:val (le 4 used)=used:=YF 4 _ (by show used < 4294967296;omega);unfold Jq;rw[IU EH,MI EH,Ab (uh _ _),axN,axP,v1,v2,Ad ⟨rfl,hu⟩,IU hS,amM L S used hL (by omega) (by omega)];rfl
theorem mg{s:List UInt8}{n gen used:Nat}{L:List (List (List UInt8))}(h:Jq s n=some (gen,used,L))(hs:64*n≤s.length)(hn:1≤n):
  used≤n -1∧gen < 18446744073709551616∧KT L=some ((s.drop 64).take (64*used))∧((s.take 64=pad [0]∧gen=0∧used=0)∨s.take 64=mark gen used):=by
 unfold Jq at h;split at h
 ·rename_i h0
  simp only[Ci,ML] at h;obtain⟨rfl,rfl,rfl⟩:=h;exact⟨by omega,by decide,rfl,.inl ⟨h0,rfl,rfl⟩⟩
 ·split at h
  ·rename_i hm
   obtain⟨h1,h2⟩:=hm;cases h3:Ja (val (((s.take 64).take 16).drop 12)) ((s.drop 64).take (64*val (((s.take 64).take 16).drop 12))) with
   |none=>rw[h3] at h;cases h
   |some q=>
    rw[h3] at h;simp only[EK,Ci,ML] at h;obtain⟨rfl,rfl,rfl⟩:=h;have hv:=A9.JS (((s.take 64).take 12).drop 4);have hl:(((s.take 64).take 12).drop 4).length=8:=(by simp only[Ct,AZ];omega);rw[hl] at hv;exact⟨h2,hv,amN _ _ _ h3,.inr h1⟩
  ·cases h
theorem ayG{s:List UInt8}{n gen used:Nat}{L:List (List (List UInt8))}(h:Jq s n=some (gen,used,L))(hs:64*n≤s.length)(hn:1≤n)(GM:n≤16384){l:List (List UInt8)}{a R:List UInt8}(hl:I4 l=some a)(hk:used+a.length / 64≤n -1):
  Jq (mark gen (used+a.length / 64)++((s.drop 64).take (64*used)++(a++R))) n=some (gen,used+a.length / 64,L++[l]):=by
 obtain⟨h1,h2,h3,_⟩:=mg h hs hn;obtain⟨g1,g2⟩:=jC hl;have:=am6 (gen:=gen) (used:=used+a.length / 64) (n:=n) (L:=L++[l]) (S:=(s.drop 64).take (64*used)++a) (R:=R) h2 hk (by omega) (aug h3 hl) (by rw[AA,AZ,Ct];omega);rwa[Dz] at this
theorem ayH{s t:List UInt8}{n gen used:Nat}{L:List (List (List UInt8))}(h:Jq s n=some (gen,used,L))(hs:64*n≤s.length)(hn:1≤n)(e:s.take (64+64*used)=t.take (64+64*used)):Jq t n=some (gen,used,L):=by
 obtain⟨h1,h2,h3,_⟩:=mg h hs hn;have e1:t.take 64=s.take 64:=by
  have:=congrArg (List.take 64) e;rw[List.take_take,List.take_take,Ih (by omega)] at this;exact this.symm
 have e2:(t.drop 64).take (64*used)=(s.drop 64).take (64*used):=by
  have:=congrArg (List.drop 64) e;rw[List.drop_take,List.drop_take,Nat.add_sub_cancel_left] at this;exact this.symm
 rw[←h];unfold Jq at h ⊢;rw[e1];split
 ·rfl
 ·rename_i h0
  rw[Ab h0] at h;split
  ·rename_i hm
   rw[Ad hm] at h;cases h4:Ja (val (((s.take 64).take 16).drop 12)) ((s.drop 64).take (64*val (((s.take 64).take 16).drop 12))) with
   |none=>rw[h4] at h;cases h
   |some q=>
    rw[h4] at h;simp only[EK,Ci,ML] at h;obtain⟨_,hu,_⟩:=h;rw[hu] at h4 ⊢;rw[e2,h4]
  ·rfl
end Av
section
open Av
def Bu:List (A8→A8×Int)→A8→A8×Int
 |[],D=>(D,0)
 |f :: l,D=>if(f D).2=0 then Bu l (f D).1 else f D
theorem di(f:A8→A8×Int)(l:List (A8→A8×Int))(D:A8):Bu (f :: l) D=if(f D).2=0 then Bu l (f D).1 else f D:=rfl
def BD.acts(L:BD)(s:List UInt8):List (A8→A8×Int):=
 [fun D=>D.write ((L.from_+1+L.used:Nat):Int) s,A8.flush,fun D=>D.write (L.from_:Int) (Av.mark L.gen (L.used+s.length / 64)),A8.flush]
def BD.LZ(L:BD):List (A8→A8×Int):=
 [fun D=>D.write (L.from_:Int) (Av.mark ((L.gen+1) % 18446744073709551616) 0),A8.flush]
def BD.fell(L:BD)(k:Int):BD:={ L with fault:=k }
def BD.grown(L:BD)(l:List (List UInt8))(k:Nat):BD:={ L with used:=L.used+k,groups:=L.groups++[l] }
def BD.Uw(L:BD):BD:={ L with gen:=(L.gen+1) % 18446744073709551616,used:=0,groups:=[] }
def Dx(D:A8)(L:BD)(l:List (List UInt8)):A8×BD×Int:=
 if L.fault≠0 then(D,L,L.fault) else match I4 l with
 |none=>(D,L,5)
 |some s=>if L.n -1 -L.used < s.length / 64 then(D,L,4) else
  if(Bu (L.acts s) D).2=0 then((Bu (L.acts s) D).1,L.grown l (s.length / 64),0) else((Bu (L.acts s) D).1,L.fell (Bu (L.acts s) D).2,(Bu (L.acts s) D).2)
def DN(D:A8)(L:BD):A8×BD×Int:=
 if L.fault≠0 then(D,L,L.fault) else
  if(Bu L.LZ D).2=0 then((Bu L.LZ D).1,L.Uw,0) else((Bu L.LZ D).1,L.fell (Bu L.LZ D).2,(Bu L.LZ D).2)
theorem agE(c:Nat):∀ (l:List (A8→A8×Int)) (D:A8),(∀ f∈l,∀ D,(f D).1.loose.length≤D.loose.length+c)→(Bu l D).1.loose.length≤D.loose.length+c*l.length
 |[],D,_=>by simp[Bu]
 |f :: l,D,h=>by
  rw[di];have h1:=h f Gf D;rw[BG,Nat.mul_add];split
  ·have:=agE c l (f D).1 (fun g hg=>h g (F9 _ hg));omega
  ·have:c≤c*l.length+c*1:=(by omega);omega
def puts(a:Nat)(s:List UInt8):Nat→List (Nat×List UInt8)
 |0=>[]
 |n+1=>(a,s.take 64) :: puts (a+1) (s.drop 64) n
theorem aCQ(D:A8)(hd:D.down=false)(a:Nat)(s:List UInt8)(n:Nat):
  (A8.writes D a s n).1.base=D.base∧(A8.writes D a s n).1.n=D.n∧
  (((A8.writes D a s n).2=0∧(A8.writes D a s n).1.down=false∧(A8.writes D a s n).1.loose=D.loose++puts a s n)∨
   ((A8.writes D a s n).2=40∧(A8.writes D a s n).1.down=true∧∃ P,(A8.writes D a s n).1.loose=D.loose++P∧∀ p∈P,a≤p.1∧p.1 < a+n)):=by
 induction n generalizing D a s with
 |zero=>exact⟨rfl,rfl,.inl ⟨rfl,hd,by simp[A8.writes,puts]⟩⟩
 |succ n ih=>
  simp only[A8.writes];split
  ·exact⟨rfl,rfl,.inr ⟨rfl,rfl,[],by simp,by simp⟩⟩
  ·obtain⟨h1,h2,h3⟩:=ih { D with loose:=D.loose++[(a,s.take 64)],left:=max (D.left -1) (-1) } hd (a+1) (s.drop 64);refine⟨h1,h2,?_⟩;rcases h3 with⟨g1,g2,g3⟩|⟨g1,g2,P,g3,g4⟩
   ·exact .inl ⟨g1,g2,by rw[g3];simp[puts]⟩
   ·refine .inr ⟨g1,g2,(a,s.take 64) :: P,by rw[g3];simp,fun p hp=>?_⟩;rcases Cc.1 hp with rfl|hp
    ·exact⟨Ae _,by show a < a+(n+1);omega⟩
    ·have:=g4 p hp;omega
theorem acs(f:Nat→List UInt8)(l:List (Nat×List UInt8))(k:Nat)(h:∀ p∈l,p.1≠k):A8.lay f l k=f k:=by
 induction l generalizing f with
 |nil=>rfl
 |cons p l ih=>
  show A8.lay _ l k=_
  rw[ih _ (fun q hq=>h q (F9 _ hq))];rw[Ab (fun e=>h p Gf e.symm)]
theorem amH{a:Nat}{s:List UInt8}{n:Nat}:∀ p∈puts a s n,a≤p.1∧p.1 < a+n:=by
 induction n generalizing a s with
 |zero=>intro p hp;simp[puts] at hp
 |succ n ih=>
  intro p hp;simp only[puts] at hp;rcases Cc.1 hp with rfl|hp
  ·exact⟨Ae _,by show a < a+(n+1);omega⟩
  ·have:=ih p hp;omega
theorem ady(f:Nat→List UInt8)(a:Nat)(s:List UInt8)(n:Nat)(hs:s.length=64*n):A8.text (A8.lay f (puts a s n)) a n=s:=by
 induction n generalizing f a s with
 |zero=>exact(List.eq_nil_of_length_eq_zero (by omega)).symm
 |succ n ih=>
  show A8.lay _ (puts (a+1) (s.drop 64) n) a++A8.text (A8.lay _ (puts (a+1) (s.drop 64) n)) (a+1) n=s
  rw[acs _ _ _ (fun p hp=>by have:=amH p hp;omega),ih _ _ _ (by rw[Ct];omega),Ad rfl,MK]
end
namespace Ag
open A9 (le val Fx)
open Av (pad)
abbrev T:=List UInt8
theorem Sc(a:T):¬ a < a:=List.lt_irrefl a
theorem Yo{a b c:T}(h:a < b)(k:b < c):a < c:=List.lt_trans h k
theorem lT(a b:T):a < b∨a=b∨b < a:=by
 by_cases h1:a < b
 ·exact .inl h1
 ·by_cases h2:b < a
  ·exact .inr (.inr h2)
  ·exact .inr (.inl (List.le_antisymm (List.not_lt.1 h2) (List.not_lt.1 h1)))
theorem KZ{a b:T}(h:a < b):a≠b:=fun e=>Sc b (by rwa[e] at h)
theorem R9{a b:T}(h:a < b):¬ b < a:=fun k=>Sc _ (Yo h k)
abbrev M:=List (T×T)
def Up(F:M):Prop:=F.Pairwise (fun a b=>a.1 < b.1)
def get(F:M)(k:T):Option T:=(F.find? (fun p=>p.1 == k)).map (·.2)
def del(k:T)(F:M):M:=F.filter (fun p=>!(p.1 == k))
def put(k v:T)(F:M):M:=F.filter (fun p=>decide (p.1 < k))++(k,v) :: F.filter (fun p=>decide (k < p.1))
theorem Up.nil:Up []:=List.Pairwise.nil
theorem Up.nodup{F:M}(h:Up F):(F.map (·.1)).Nodup:=by
 rw[List.nodup_iff_pairwise_ne];exact List.pairwise_map.2 (h.imp fun h=>KZ h)
theorem Up.del{F:M}(h:Up F)(k:T):Up (del k F):=h.filter _
theorem Up.put{F:M}(h:Up F)(k v:T):Up (put k v F):=by
 unfold Ag.put;refine List.pairwise_append.2 ⟨h.filter _,JV.2 ⟨fun b hb=>?_,h.filter _⟩,fun a ha b hb=>?_⟩
 ·simpa using(FZ.1 hb).2
 ·have h1:a.1 < k:=by simpa using(FZ.1 ha).2
  rcases Cc.1 hb with rfl|hb
  ·exact h1
  ·exact Yo h1 (by simpa using(FZ.1 hb).2)
theorem filter_none{F:M}{p:T×T→Bool}(h:∀ x∈F,p x=false):F.filter p=[]:=List.filter_eq_nil_iff.2 fun x hx=>by rw[h x hx];simp
theorem filter_all{F:M}{p:T×T→Bool}(h:∀ x∈F,p x=true):F.filter p=F:=List.filter_eq_self.2 h
theorem as0{F:M}(h:Up F)(k:T):del k F=F.filter (fun p=>decide (p.1 < k))++F.filter (fun p=>decide (k < p.1)):=by
 induction F with
 |nil=>rfl
 |cons p F ih=>
  obtain⟨h1,h2⟩:=JV.1 h;have ih:=ih h2;unfold del at ih ⊢;rcases lT p.1 k with e|e|e
  ·rw[Vn (by simpa using KZ e),Vn (by simpa using e),Rl (by simpa using List.not_lt.1 (R9 e)),ih];rfl
  ·have h3:∀ x∈F,k < x.1:=fun x hx=>e▸h1 x hx
   rw[Rl (by simpa using e),Rl (by rw[e];simp),Rl (by rw[e];simp),ih]
  ·have h3:∀ x∈F,k < x.1:=fun x hx=>Yo e (h1 x hx)
   rw[Vn (by simpa using Ne.symm (KZ e)),Rl (by simpa using List.not_lt.1 (R9 e)),Vn (by simpa using e)];have a1:F.filter (fun p=>decide (p.1 < k))=[]:=filter_none (fun x hx=>by simpa using List.not_lt.1 (R9 (h3 x hx)));have a2:F.filter (fun p=>decide (k < p.1))=F:=filter_all (fun x hx=>by simpa using h3 x hx);have a3:F.filter (fun p=>!(p.1 == k))=F:=filter_all (fun x hx=>by simpa using Ne.symm (KZ (h3 x hx)));rw[a1,a2,a3];rfl
theorem aK{F:M}(h:Up F)(k v:T):(put k v F).Perm ((k,v) :: del k F):=by
 rw[as0 h];exact List.perm_middle
theorem get_some{F:M}{k v:T}(h:get F k=some v):(k,v)∈F:=by
 unfold get at h;obtain⟨p,hp,rfl⟩:=SA.1 h;have h1:=List.find?_some hp;simp at h1;subst h1;exact List.mem_of_find?_eq_some hp
theorem get_mem{F:M}(h:Up F){k v:T}(hm:(k,v)∈F):get F k=some v:=by
 induction F with
 |nil=>simp at hm
 |cons p F ih=>
  obtain⟨h1,h2⟩:=JV.1 h;unfold get;rcases Cc.1 hm with e|hm
  ·subst e;simp
  ·have:¬ p.1=k:=fun e=>Sc k (by have:=h1 _ hm;rwa[e] at this)
   rw[List.find?_cons_of_neg (by simpa using this)];exact ih h2 hm
theorem get_none{F:M}{k:T}:get F k=none↔∀ p∈F,p.1≠k:=by
 unfold get;rw[Option.map_eq_none_iff,List.find?_eq_none];simp
theorem TQ{F:M}(h:Up F){k v:T}{p:T×T}:p∈put k v F↔p=(k,v)∨(p∈F∧p.1≠k):=by
 rw[(aK h k v).mem_iff,Cc];unfold del;rw[FZ];simp
theorem Yq{F:M}{k:T}{p:T×T}:p∈del k F↔p∈F∧p.1≠k:=by
 unfold del;rw[FZ];simp
theorem get_put{F:M}(h:Up F)(k v j:T):get (put k v F) j=if j=k then some v else get F j:=by
 by_cases e:j=k
 ·subst e;rw[Ad rfl];exact get_mem (h.put _ _) ((TQ h).2 (.inl rfl))
 ·rw[Ab e];cases hg:get F j with
  |none=>
   rw[get_none] at hg ⊢;intro p hp;rcases(TQ h).1 hp with rfl|⟨hp,_⟩
   ·exact fun e'=>e e'.symm
   ·exact hg p hp
  |some x=>exact get_mem (h.put _ _) ((TQ h).2 (.inr ⟨get_some hg,e⟩))
theorem jA{F:M}(h:Up F)(k j:T):get (del k F) j=if j=k then none else get F j:=by
 by_cases e:j=k
 ·subst e;rw[Ad rfl,get_none];exact fun p hp=>(Yq.1 hp).2
 ·rw[Ab e];cases hg:get F j with
  |none=>
   rw[get_none] at hg ⊢;exact fun p hp=>hg p (Yq.1 hp).1
  |some x=>exact get_mem (h.del _) (Yq.2 ⟨get_some hg,e⟩)
theorem aU:∀ {F G:M},Up F→Up G→(∀ p,p∈F↔p∈G)→F=G
 |[],[],_,_,_=>rfl
 |[],q :: G,_,_,h=>absurd ((h q).2 Gf) (by simp)
 |p :: F,[],_,_,h=>absurd ((h p).1 Gf) (by simp)
 |p :: F,q :: G,hF,hG,h=>by
  obtain⟨f1,f2⟩:=JV.1 hF;obtain⟨g1,g2⟩:=JV.1 hG;have e:p=q:=by
   rcases Cc.1 ((h p).1 Gf) with e|e
   ·exact e
   ·rcases Cc.1 ((h q).2 Gf) with e2|e2
    ·exact e2.symm
    ·exact absurd (g1 _ e) (R9 (f1 _ e2))
  subst e;rw[aU f2 g2 (fun x=>?_)];constructor
  ·intro hx;rcases Cc.1 ((h x).1 (F9 _ hx)) with e|e
   ·exact absurd (f1 _ hx) (by rw[e];exact Sc _)
   ·exact e
  ·intro hx;rcases Cc.1 ((h x).2 (F9 _ hx)) with e|e
   ·exact absurd (g1 _ hx) (by rw[e];exact Sc _)
   ·exact e
structure Am where
 name:T
 data:T
 gone:Bool
def Fu(name data:T):Bool:=decide (name≠[]∧name.length≤32∧data.length≤65535)
def Am.may(c:Am):Bool:=Fu c.name c.data && (!c.gone || c.data.isEmpty)
def Am.on(F:M)(c:Am):M:=if c.gone then del c.name F else put c.name c.data F
def made(F:M)(l:List Am):M:=l.foldl Am.on F
theorem ug(F:M)(l:List Am)(c:Am):made F (l++[c])=Am.on (made F l) c:=by unfold made;rw[List.foldl_append];rfl
theorem uf(F:M)(l k:List Am):made F (l++k)=made (made F l) k:=by unfold made;rw[List.foldl_append]
theorem Up.on{F:M}(h:Up F)(c:Am):Up (Am.on F c):=by unfold Am.on;split;exact h.del _;exact h.put _ _
theorem Up.made{F:M}(h:Up F)(l:List Am):Up (made F l):=by
 induction l generalizing F with
 |nil=>exact h
 |cons c l ih=>exact ih (h.on c)
def Good(F:M):Prop:=∀ p∈F,Fu p.1 p.2=true
theorem Good.on{F:M}(h:Good F)(hu:Up F){c:Am}(hc:c.may=true):Good (Am.on F c):=by
 unfold Am.may at hc;simp only[Bool.and_eq_true] at hc;unfold Am.on;intro p hp;split at hp
 ·exact h p (Yq.1 hp).1
 ·rcases(TQ hu).1 hp with rfl|⟨hp,_⟩
  ·exact hc.1
  ·exact h p hp
theorem Good.made{F:M}(h:Good F)(hu:Up F){l:List Am}(hl:∀ c∈l,c.may=true):Good (made F l):=by
 induction l generalizing F with
 |nil=>exact h
 |cons c l ih=>exact ih (h.on hu (hl c Gf)) (hu.on c) (fun x hx=>hl x (F9 _ hx))
theorem ahM{F:M}(hu:Up F)(l:List Am)(k:T):get (made F l) k=match l.reverse.find? (fun c=>c.name == k) with|none=>get F k|some c=>if c.gone then none else some c.data:=by
 induction l generalizing F with
 |nil=>rfl
 |cons c l ih=>
  show get (made (Am.on F c) l) k=_
  rw[ih (hu.on c),List.reverse_cons,List.find?_append];cases h:l.reverse.find? (fun c=>c.name == k) with
  |some x=>rfl
  |none=>
   simp only[Option.none_or,List.find?_cons,List.find?_nil];by_cases e:c.name=k
   ·subst e;simp only[beq_self_eq_true];unfold Am.on;split
    ·rw[jA hu,Ad rfl]
    ·rw[get_put hu,Ad rfl]
   ·have e2:(c.name == k)=false:=(by simpa using e);rw[e2];simp only;unfold Am.on;split
    ·rw[jA hu,Ab (fun h=>e h.symm)]
    ·rw[get_put hu,Ab (fun h=>e h.symm)]
def cost(p:T×T):Nat:=8+p.1.length+p.2.length
def used(F:M):Nat:=4+(F.map cost).sum
def Ta(p:T×T):T:=le 4 p.1.length++(p.1++(le 4 p.2.length++p.2))
def bytes(F:M):T:=le 4 F.length++F.flatMap Ta
theorem asz(p:T×T):(Ta p).length=cost p:=by unfold Ta cost;simp[A9.C9];omega
theorem qB(F:M):(F.flatMap Ta).length=(F.map cost).sum:=by
 induction F with
 |nil=>rfl
 |cons p F ih=>rw[Qg,AA,ih,asz];rfl
theorem zn(F:M):(bytes F).length=used F:=by unfold bytes used;rw[AA,A9.C9,qB]
theorem aop{F:M}{p:T×T}(h:p∈F):cost p+4≤used F:=by
 unfold used;have:cost p≤(F.map cost).sum:=by
  induction F with
  |nil=>simp at h
  |cons q F ih=>
   rw[Ca,DR];rcases Cc.1 h with rfl|h
   ·omega
   ·have:=ih h;omega
 omega
theorem Rf(F:M):4+8*F.length≤used F:=by
 unfold used;have:8*F.length≤(F.map cost).sum:=by
  induction F with
  |nil=>simp
  |cons q F ih=>rw[Ca,DR,BG];unfold cost at ih ⊢;omega
 omega
def cut(s:T):Option (T×T):=if s.length < 4 then none else if val (s.take 4)≤s.length -4 then some ((s.take (4+val (s.take 4))).drop 4,s.drop (4+val (s.take 4))) else none
def TP(last:Option T)(k:T):Bool:=match last with|none=>true|some x=>decide (x < k)
def JO:Nat→Option T→T→Option (M×T)
 |0,_,s=>some ([],s)
 |n+1,last,s=>(cut s).bind fun p=>(cut p.2).bind fun q=>if Fu p.1 q.1=true∧TP last p.1=true then(JO n (some p.1) q.2).map fun r=>((p.1,q.1) :: r.1,r.2) else none
def read(s:T):Option M:=if s.length < 4 then none else(JO (val (s.take 4)) none (s.drop 4)).bind fun r=>if r.2=[] then some r.1 else none
theorem zG(s R:T)(h:s.length < 4294967296):cut (le 4 s.length++(s++R))=some (s,R):=by
 have e1:(le 4 s.length++(s++R)).take 4=le 4 s.length:=IU (A9.C9 _ _);have e2:val (le 4 s.length)=s.length:=Av.YF 4 _ (by omega);unfold cut;rw[e1,e2,Ab (by simp[A9.C9]),Ad (by simp[A9.C9])];have e3:(le 4 s.length++(s++R)).drop 4=s++R:=MI (A9.C9 _ _);have e4:(le 4 s.length++(s++R)).drop (4+s.length)=R:=by rw[←List.drop_drop,e3,MI rfl]
 have e5:((le 4 s.length++(s++R)).take (4+s.length)).drop 4=s:=by
  rw[List.drop_take,e3,show 4+s.length -4=s.length by omega,IU rfl]
 rw[e4,e5]
theorem VT{s p q:T}(h:cut s=some (p,q)):4≤s.length∧p.length+q.length+4=s.length:=by
 unfold cut at h;split at h
 ·cases h
 ·split at h
  ·simp only[Ci,ML] at h;obtain⟨rfl,rfl⟩:=h;rw[Ct,Ct,AZ];omega
  ·cases h
theorem amK:∀ (F:M) (last:Option T) (R:T),Up F→Good F→(∀ x,last=some x→∀ p∈F,x < p.1)→JO F.length last (F.flatMap Ta++R)=some (F,R)
 |[],_,R,_,_,_=>rfl
 |p :: F,last,R,hu,hg,hl=>by
  obtain⟨u1,u2⟩:=JV.1 hu;have g1:=hg p Gf;have g2:p.1.length≤32∧p.2.length≤65535:=by unfold Fu at g1;simp at g1;exact⟨g1.2.1,g1.2.2⟩
  rw[BG,Qg];unfold JO;have e1:Ta p++F.flatMap Ta++R=le 4 p.1.length++(p.1++(le 4 p.2.length++(p.2++(F.flatMap Ta++R)))):=by unfold Ta;simp only[Dz]
  rw[e1,zG _ _ (by omega)];simp only[CL];rw[zG _ _ (by omega)];simp only[CL];have hn:TP last p.1=true:=by
   cases last with
   |none=>rfl
   |some x=>simpa[TP] using hl x rfl p Gf
  rw[Ad ⟨g1,hn⟩,amK F (some p.1) R u2 (fun q hq=>hg q (F9 _ hq)) (fun x hx q hq=>by cases hx;exact u1 q hq)];rfl
theorem azJ{F:M}(hu:Up F)(hg:Good F)(hn:F.length < 4294967296):read (bytes F)=some F:=by
 unfold read bytes;rw[Ab (by simp[A9.C9]),IU (A9.C9 _ _),MI (A9.C9 _ _),Av.YF 4 _ (by omega)];have:=amK F none [] hu hg (fun x e=>by cases e);rw[Ea] at this;rw[this];rfl
def Uy(g:Bool):UInt8:=if g then 1 else 0
def group(l:List Am):List T:=l.flatMap fun c=>[Uy c.gone :: c.name,c.data]
def ungroup:List T→Option (List Am)
 |[]=>some []
 |[_]=>none
 |[] :: _ :: _=>none
 |(b :: n) :: d :: l=>if b.toNat≤1∧Am.may ⟨n,d,b == 1⟩=true then(ungroup l).map (⟨n,d,b == 1⟩ :: ·) else none
theorem aue(l:List Am)(c:Am):group (l++[c])=group l++[Uy c.gone :: c.name,c.data]:=by unfold group;simp
theorem ahQ(l:List Am):(group l).length=2*l.length:=by
 induction l with
 |nil=>rfl
 |cons c l ih=>show(_ :: _ :: group l).length=_;simp[ih];omega
theorem aoe:∀ (l:List Am),(∀ c∈l,c.may=true)→ungroup (group l)=some l
 |[],_=>rfl
 |c :: l,h=>by
  show ungroup ((Uy c.gone :: c.name) :: c.data :: group l)=_
  have hc:=h c Gf;have e:(Uy c.gone == 1)=c.gone:=by unfold Uy;cases c.gone<;>rfl
  have e2:(Uy c.gone).toNat≤1:=by unfold Uy;cases c.gone<;>decide
  simp only[ungroup];rw[e,Ad ⟨e2,hc⟩,aoe l (fun x hx=>h x (F9 _ hx))];rfl
end Ag
section
open Av
structure A8.Calm(D:A8):Prop where
 fine:D.BO
 loose:D.loose=[]
 up:D.down=false
theorem A8.Calm.GX{D:A8}(h:D.Calm)(keep:List UInt8):D.GX keep={ D with left:= -1 }:=by
 obtain⟨_,h2,h3⟩:=h;unfold A8.GX A8.kept;rw[h2];cases D;simp only at h2 h3;subst h2 h3;rfl
theorem A8.Calm.now{D:A8}(h:D.Calm):D.now=D.base:=by unfold A8.now;rw[h.loose];rfl
theorem A8.Calm.left{D:A8}(h:D.Calm){n:Int}(h1: -1≤n)(h2:n≤9223372036854775807):({ D with left:=n }:A8).Calm:=
 ⟨⟨h.fine.n1,h.fine.n2,h.fine.base,h.fine.loose,⟨h1,h2⟩⟩,h.loose,h.up⟩
theorem agD(a b:List (A8→A8×Int))(D:A8):Bu (a++b) D=if(Bu a D).2=0 then Bu b (Bu a D).1 else Bu a D:=by
 induction a generalizing D with
 |nil=>simp[Bu]
 |cons f a ih=>
  rw[Gt,di,di];by_cases h:(f D).2=0
  ·rw[Ad h,Ad h,ih]
  ·rw[Ab h,Ab h,Ab h]
def Wrote(D:A8)(at_ k:Nat)(s:List UInt8)(r:A8×Int):Prop:=
 (r.2=0∧r.1.Calm∧r.1.n=D.n∧r.1.base=A8.lay D.base (puts at_ s k)∧(D.left= -1→r.1.left= -1))∨
 (r.2=40∧D.left≠ -1∧r.1.BO∧r.1.down=true∧r.1.n=D.n∧∀ keep,∀ j,j < at_∨at_+k≤j∨k=1→(r.1.GX keep).base j=D.base j)
theorem aCO(D:A8)(a:Nat)(s:List UInt8)(n:Nat)(h:D.left= -1):(A8.writes D a s n).2=0∧(A8.writes D a s n).1.left= -1:=by
 induction n generalizing D a s with
 |zero=>exact⟨rfl,h⟩
 |succ n ih=>
  simp only[A8.writes];rw[Ab (by omega)];exact ih _ _ _ (by show max (D.left -1) (-1)= -1;omega)
theorem nI{D:A8}(h:D.Calm){at_ k:Nat}{s:List UInt8}(hs:s.length=64*k)(hk:at_+k≤D.n):Wrote D at_ k s (Bu [fun D=>D.write (at_:Int) s,A8.flush] D):=by
 have hF:=h.fine;have GM:=hF.n2;have hW:D.write (at_:Int) s=A8.writes D at_ s k:=by
  unfold A8.write;rw[Ab (by simp[h.up]),Ad ⟨by omega,by simp[A8.inside];omega⟩,show s.length / 64=k by omega];rfl
 have hl:=fun e=>aCO D at_ s k e
 obtain⟨w1,w2,w3⟩:=aCQ D h.up at_ s k;have hF1:=hF.writes (at_:=at_) (s:=s) (n:=k) (by omega) (by omega);have eQ:k=1→(A8.writes D at_ s k).2=40→(A8.writes D at_ s k).1.loose=[]:=by
  rintro rfl;simp only[A8.writes];split
  ·intro _;exact h.loose
  ·intro e;cases e
 rw[di]
 show Wrote D at_ k s (if(D.write (at_:Int) s).2=0 then _ else D.write (at_:Int) s)
 rw[hW];generalize A8.writes D at_ s k=r at*;obtain⟨D1,e1⟩:=r;simp only at*;rcases w3 with⟨rfl,g2,g3⟩|⟨rfl,g2,P,g3,g4⟩
 ·rw[Ad rfl];rw[h.loose,Ei] at g3;have IK:D1.flush=({ D1 with base:=A8.lay D1.base D1.loose,loose:=[] },0):=by unfold A8.flush;rw[Ab (by simp[g2])]
  have qV:=hF1.flush;rw[IK] at qV;rw[di,IK,Ad rfl];refine .inl ⟨rfl,⟨qV,rfl,g2⟩,w2,?_,fun e=>(hl e).2⟩
  show A8.lay D1.base D1.loose=_
  rw[w1,g3]
 ·rw[Ab (by decide)];refine .inr ⟨rfl,fun e=>by have:=(hl e).1;simp at this,hF1,g2,w2,fun keep j hj=>?_⟩;have e2:(D1.GX keep).base=A8.lay D1.base (A8.kept D1 keep):=rfl;rw[e2,acs,w1];intro p hp;have Fs:=A8.al1 0 _ p hp;rcases hj with hj|hj|hj
  ·rw[g3,h.loose,Ei] at Fs;have:=g4 p Fs;omega
  ·rw[g3,h.loose,Ei] at Fs;have:=g4 p Fs;omega
  ·rw[eQ hj rfl] at Fs;simp at Fs
def logAt(f:Nat→List UInt8)(L:BD):Prop:=Jq (A8.text f L.from_ L.n) L.n=some (L.gen,L.used,L.groups)
theorem acx{f g:Nat→List UInt8}{L:BD}(h:logAt f L)(e:∀ j,L.from_≤j→j < L.from_+L.n→g j=f j):logAt g L:=by
 unfold logAt at*;rw[A8.Qc (g:=f) _ _ (fun i a b=>e i a b)];exact h
theorem alp{D:A8}(hD:D.BO){L:BD}(h:logAt D.base L)(h1:1≤L.n)(hn:L.from_+L.n≤D.n){g:Nat→List UInt8}
  (e:∀ j,L.from_≤j→j < L.from_+1+L.used→g j=D.base j):logAt g L:=by
 unfold logAt at*;have Gm:(A8.text D.base L.from_ L.n).length=64*L.n:=A8.mX hD.base _ _ (by omega);have hu:=(mg h (by omega) h1).1;refine ayH h (by omega) h1 ?_;obtain⟨m,hm⟩:∃ m,L.n=1+L.used+m:=⟨L.n -(1+L.used),by omega⟩;have e2:=A8.Qc (f:=g) (g:=D.base) L.from_ (1+L.used) (fun i a b=>e i a (by omega));rw[hm,A8.YB D.base L.from_ (1+L.used) m,A8.YB g L.from_ (1+L.used) m,e2];rw[show 64+64*L.used=64*(1+L.used) by omega,IU (A8.Ym (fun i a b=>hD.base i (by omega))),IU (A8.Ym (fun i a b=>hD.base i (by omega)))]
def aoP(D:A8)(L:BD)(l:List (List UInt8))(k:Nat)(r:A8×BD×Int):Prop:=
 (r.2.2=0∧r.2.1=L.grown l k∧r.1.Calm∧r.1.n=D.n∧logAt r.1.base (L.grown l k)∧(∀ j,j < L.from_∨L.from_+L.n≤j→r.1.base j=D.base j)∧(D.left= -1→r.1.left= -1))∨
 (r.2.2=40∧D.left≠ -1∧r.2.1=L.fell 40∧r.1.BO∧r.1.down=true∧r.1.n=D.n∧∀ keep,logAt (r.1.GX keep).base L∧∀ j,j < L.from_∨L.from_+L.n≤j→(r.1.GX keep).base j=D.base j)
theorem R3(f:Nat→List UInt8)(a:Nat)(s:List UInt8)(k j:Nat)(h:j < a∨a+k≤j):A8.lay f (puts a s k) j=f j:=acs _ _ _ (fun p hp=>by have:=amH p hp;omega)
theorem acu(f:Nat→List UInt8)(a:Nat)(s:List UInt8)(hs:s.length=64):A8.lay f (puts a s 1) a=s:=by
 have:=ady f a s 1 (by omega);simpa[A8.text] using this
theorem auj{f:Nat→List UInt8}{a n u k:Nat}{s M:List UInt8}(hs:s.length=64*k)(hM:M.length=64)(hk:u+k+1≤n)(hf:∀ i,a≤i→i < a+n→(f i).length=64):
  A8.text (A8.lay (A8.lay f (puts (a+1+u) s k)) (puts a M 1)) a n=M++(((A8.text f a n).drop 64).take (64*u)++(s++A8.text f (a+1+u+k) (n -1 -u -k))):=by
 obtain⟨m,LJ⟩:∃ m,n=m+1:=⟨n -1,by omega⟩;subst LJ
 show _++A8.text _ (a+1) m=_
 rw[acu _ _ _ hM]
 congr 1
 rw[A8.Qc (g:=A8.lay f (puts (a+1+u) s k)) (a+1) m (fun i a1 a2=>R3 _ _ _ _ _ (by omega))];obtain⟨q,rfl⟩:∃ q,m=u+(k+q):=⟨m -(u+k),by omega⟩;rw[A8.YB,A8.YB];have t1:A8.text (A8.lay f (puts (a+1+u) s k)) (a+1) u=((A8.text f a (u+(k+q)+1)).drop 64).take (64*u):=by
  rw[A8.Qc (g:=f) (a+1) u (fun i a1 a2=>R3 _ _ _ _ _ (by omega))]
  show _=((f a++A8.text f (a+1) _).drop 64).take _
  rw[MI (hf a (by omega) (by omega)),A8.YB,IU (A8.Ym (fun i a1 a2=>hf i (by omega) (by omega)))]
 rw[t1,ady _ _ _ _ hs,A8.Qc (g:=f) (a+1+u+k) q (fun i a1 a2=>R3 _ _ _ _ _ (by omega)),show u+(k+q)+1 -1 -u -k=q by omega]
theorem aCz{D:A8}{L:BD}(h:D.Calm)(hl:logAt D.base L)(hf:L.fault=0)(h2:2≤L.n)(hn:L.from_+L.n≤D.n){l:List (List UInt8)}{s:List UInt8}(hg:I4 l=some s)(J2:¬ L.n -1 -L.used < s.length / 64):
  aoP D L l (s.length / 64) (Dx D L l):=by
 obtain⟨VY,aDG⟩:=jC hg;have hF:=h.fine;have GM:=hF.n2;have hlen:(A8.text D.base L.from_ L.n).length=64*L.n:=A8.mX hF.base _ _ (by omega);have hu:=(mg hl (by omega) (by omega)).1;obtain⟨k,hk⟩:∃ k,k=s.length / 64:=⟨_,rfl⟩;rw[←hk] at J2 ⊢;have CG:s.length=64*k:=by omega
 have hm:=Av.O4 L.gen (L.used+k);have aaM:L.acts s=[fun D=>D.write ((L.from_+1+L.used:Nat):Int) s,A8.flush]++[fun D=>D.write (L.from_:Int) (Av.mark L.gen (L.used+k)),A8.flush]:=by unfold BD.acts;rw[←hk];rfl
 have avE:Dx D L l=if(Bu (L.acts s) D).2=0 then((Bu (L.acts s) D).1,L.grown l k,0) else((Bu (L.acts s) D).1,L.fell (Bu (L.acts s) D).2,(Bu (L.acts s) D).2):=by
  unfold Dx;rw[Ab (by simp[hf]),hg];simp only;rw[←hk,Ab J2]
 rw[avE,aaM,agD];have w1:=nI h (at_:=L.from_+1+L.used) (k:=k) (s:=s) CG (by omega);generalize Bu [fun D=>D.write ((L.from_+1+L.used:Nat):Int) s,A8.flush] D=r1 at*;rcases w1 with⟨e1,c1,n1,b1,l1⟩|⟨e1,l1,f1,d1,n1,b1⟩
 ·rw[Ad e1];have w2:=nI c1 (at_:=L.from_) (k:=1) (s:=Av.mark L.gen (L.used+k)) (by omega) (by omega);generalize Bu [fun D=>D.write (L.from_:Int) (Av.mark L.gen (L.used+k)),A8.flush] r1.1=r2 at*;rcases w2 with⟨e2,c2,n2,b2,l2⟩|⟨e2,l2,f2,d2,n2,b2⟩
  ·rw[Ad e2];refine .inl ⟨rfl,rfl,c2,n2.trans n1,?_,fun j hj=>?_,fun e=>l2 (l1 e)⟩
   ·have Tv:=ayG hl (by omega) (by omega) (by omega) hg (R:=A8.text D.base (L.from_+1+L.used+k) (L.n -1 -L.used -k)) (by omega)
    show Jq (A8.text _ L.from_ L.n) L.n=some (L.gen,L.used+k,L.groups++[l])
    rw[←hk] at Tv;refine Eq.trans ?_ Tv;rw[b2,b1]
    congr 1
    exact auj CG hm (by omega) (fun i a b=>hF.base i (by omega))
   ·rw[b2,R3 _ _ _ _ _ (by omega),b1,R3 _ _ _ _ _ (by omega)]
  ·rw[Ab (by rw[e2];decide),e2];refine .inr ⟨rfl,fun e=>l2 (l1 e),rfl,f2,d2,n2.trans n1,fun keep=>⟨?_,fun j hj=>?_⟩⟩
   ·refine alp hF hl (by omega) hn (fun j a b=>?_);rw[b2 keep j (.inr (.inr rfl)),b1,R3 _ _ _ _ _ (by omega)]
   ·rw[b2 keep j (.inr (.inr rfl)),b1,R3 _ _ _ _ _ (by omega)]
 ·have hne:r1.2≠0:=by rw[e1];decide
  rw[Ab hne,Ab hne,e1];refine .inr ⟨rfl,l1,rfl,f1,d1,n1,fun keep=>⟨?_,fun j hj=>?_⟩⟩
  ·exact alp hF hl (by omega) hn (fun j a b=>b1 keep j (by omega))
  ·exact b1 keep j (by omega)
def ae9(D:A8)(L:BD)(r:A8×BD×Int):Prop:=
 (r.2.2=0∧r.2.1=L.Uw∧r.1.Calm∧r.1.n=D.n∧logAt r.1.base L.Uw∧(∀ j,j < L.from_∨L.from_+L.n≤j→r.1.base j=D.base j)∧(D.left= -1→r.1.left= -1))∨
 (r.2.2=40∧D.left≠ -1∧r.2.1=L.fell 40∧r.1.BO∧r.1.down=true∧r.1.n=D.n∧∀ keep,∀ j,(r.1.GX keep).base j=D.base j)
theorem aoN{D:A8}{L:BD}(h:D.Calm)(hf:L.fault=0)(h2:2≤L.n)(hn:L.from_+L.n≤D.n):ae9 D L (DN D L):=by
 have hF:=h.fine;have GM:=hF.n2;have hm:=Av.O4 ((L.gen+1) % 18446744073709551616) 0;have Ef:(L.gen+1) % 18446744073709551616 < 18446744073709551616:=Nat.mod_lt _ (by decide);have w1:=nI h (at_:=L.from_) (k:=1) (s:=Av.mark ((L.gen+1) % 18446744073709551616) 0) (by omega) (by omega);unfold DN BD.LZ;rw[Ab (by simp[hf])];have rU:L.Uw={ L with gen:=(L.gen+1) % 18446744073709551616,used:=0,groups:=[] }:=rfl;unfold ae9;rw[rU];generalize (L.gen+1) % 18446744073709551616=g2 at*;generalize Bu [fun D=>D.write (L.from_:Int) (Av.mark g2 0),A8.flush] D=r1 at*;rcases w1 with⟨e1,c1,n1,b1,l1⟩|⟨e1,l1,f1,d1,n1,b1⟩
 ·rw[Ad e1];refine .inl ⟨rfl,rfl,c1,n1,?_,fun j hj=>by show r1.1.base j=_;rw[b1,R3 _ _ _ _ _ (by omega)],l1⟩
  show Jq (A8.text r1.1.base L.from_ L.n) L.n=some (g2,0,[])
  obtain⟨m,LJ⟩:∃ m,L.n=m+1:=⟨L.n -1,by omega⟩;rw[LJ,b1]
  show Jq (A8.lay D.base (puts L.from_ (Av.mark g2 0) 1) L.from_++A8.text _ (L.from_+1) m) (m+1)=_
  rw[acu _ _ _ hm];exact am6 (L:=[]) (S:=[]) Ef (by omega) (by decide) rfl rfl
 ·have hne:r1.2≠0:=by rw[e1];decide
  rw[Ab hne,e1];exact .inr ⟨rfl,l1,rfl,f1,d1,n1,fun keep j=>b1 keep j (.inr (.inr rfl))⟩
end
namespace Ag
open A9 (le val Fx)
open Av
structure St where
 log:Nat
 size:Nat
 AL:Nat
 m:M
 w:BD
 fault:Int
def lg(n:Nat):Nat:=max (n / 8) 2
def sz(n:Nat):Nat:=(n -1 -lg n) / 2
theorem aA{n:Nat}(h:8≤n):2≤lg n∧2≤sz n∧1+lg n+2*sz n≤n:=by unfold sz lg;omega
def mark(AL num:Nat):T:=pad (Fx ([70,73,76,49]++[UInt8.ofNat AL]++le 8 num))
theorem O4(AL num:Nat):(mark AL num).length=64:=by
 unfold mark;rw[Sg,A9.Sl];simp[A9.C9]
def CV(log size AL:Nat):Nat:=1+log+AL*size
def Nn(f:Nat→T)(log size:Nat):Option (Nat×Nat×M):=
 if f 0=pad [0] then some (0,0,[]) else
 if((f 0).getD 4 0).toNat≤1∧f 0=mark ((f 0).getD 4 0).toNat (val (((f 0).take 13).drop 5)) then
  (cut (A8.text f (CV log size ((f 0).getD 4 0).toNat) size)).bind fun p=>(read p.1).map fun m=>(((f 0).getD 4 0).toNat,val (((f 0).take 13).drop 5),m)
 else none
def Qd:List (List T)→Option (List (List Am))
 |[]=>some []
 |g :: G=>(ungroup g).bind fun c=>(Qd G).map (c :: ·)
def OX(m:M)(cs:List (List Am)):M:=cs.foldl made m
theorem aBL(G:List (List T))(g:List T):Qd (G++[g])=(Qd G).bind fun cs=>(ungroup g).map fun c=>cs++[c]:=by
 induction G with
 |nil=>cases h:ungroup g<;>simp[Qd,h]
 |cons x G ih=>
  rw[Gt];simp only[Qd,ih];cases ungroup x with
  |none=>rfl
  |some a=>
   cases Qd G with
   |none=>rfl
   |some b=>
    cases ungroup g with
    |none=>rfl
    |some c=>rfl
theorem aly(m:M)(cs:List (List Am))(c:List Am):OX m (cs++[c])=made (OX m cs) c:=by unfold OX;rw[List.foldl_append];rfl
theorem adJ:∀ (n:Nat) (l:List T) (cs:List Am),l.length≤n→ungroup l=some cs→∀ c∈cs,c.may=true:=by
 intro n
 induction n with
 |zero=>
  intro l cs hn h c hc;obtain rfl:l=[]:=List.eq_nil_of_length_eq_zero (by omega);simp only[ungroup,Ci] at h;subst h;simp at hc
 |succ n ih=>
  intro l cs hn h
  match l,h with
  |[],h=>
   simp only[ungroup,Ci] at h;subst h;intro c hc;simp at hc
  |[_],h=>simp[ungroup] at h
  |[] :: _ :: _,h=>simp[ungroup] at h
  |(b :: k) :: d :: l,h=>
   simp only[ungroup] at h;split at h
   ·rename_i hm
    obtain⟨ds,hd,rfl⟩:=SA.1 h;intro c hc;rcases Cc.1 hc with rfl|hc
    ·exact hm.2
    ·exact ih l ds (by simp at hn;omega) hd c hc
   ·cases h
def fP(D:A8):Option St×A8×Int:=
 if D.n < 8 then(none,D,2) else if D.down=true then(none,D,40) else
 match Nn D.now (lg D.n) (sz D.n) with
 |none=>(none,D,50)
 |some (a,num,m)=>match Jq (A8.text D.now 1 (lg D.n)) (lg D.n) with
  |none=>(none,D,50)
  |some (g,u,G)=>if 0 < num∧g < num -1 then(none,D,50) else
   match Qd G with
   |none=>(none,D,50)
   |some cs=>if g < num then
     (if(DN D ⟨1,lg D.n,g,u,G,0⟩).2.2=0 then(some ⟨lg D.n,sz D.n,a,m,(DN D ⟨1,lg D.n,g,u,G,0⟩).2.1,0⟩,(DN D ⟨1,lg D.n,g,u,G,0⟩).1,0)
      else(none,(DN D ⟨1,lg D.n,g,u,G,0⟩).1,(DN D ⟨1,lg D.n,g,u,G,0⟩).2.2))
    else(some ⟨lg D.n,sz D.n,a,OX m cs,⟨1,lg D.n,g,u,G,0⟩,0⟩,D,0)
def Qz(m:M):T:=pad (le 4 (bytes m).length++bytes m)
def Ib(F:St)(m:M):List (A8→A8×Int):=
 [fun D=>D.write ((CV F.log F.size (1 -F.AL):Nat):Int) (Qz m),A8.flush,fun D=>D.write ((0:Nat):Int) (mark (1 -F.AL) ((F.w.gen+1) % 18446744073709551616)),A8.flush]
def OW(D:A8)(F:St)(m:M):A8×St×Int:=
 if(Bu (Ib F m) D).2=0 then
  if(DN (Bu (Ib F m) D).1 F.w).2.2=0 then((DN (Bu (Ib F m) D).1 F.w).1,{ F with AL:=1 -F.AL,m:=m,w:=(DN (Bu (Ib F m) D).1 F.w).2.1 },0)
  else((DN (Bu (Ib F m) D).1 F.w).1,{ F with AL:=1 -F.AL,w:=(DN (Bu (Ib F m) D).1 F.w).2.1,fault:=(DN (Bu (Ib F m) D).1 F.w).2.2 },(DN (Bu (Ib F m) D).1 F.w).2.2)
 else((Bu (Ib F m) D).1,{ F with AL:=1 -F.AL,fault:=(Bu (Ib F m) D).2 },(Bu (Ib F m) D).2)
def St.room(F:St):Nat:=F.size*64 -4
def St.fits(F:St)(l:List T):Bool:=match I4 l with|none=>false|some s=>decide (s.length / 64≤F.w.n -1 -F.w.used)
def JC(D:A8)(F:St)(l:List Am):A8×St×Int:=
 if F.fault≠0 then(D,F,F.fault) else if l.all Am.may=false then(D,F,2) else
 if F.room < used (made F.m l) then(D,F,4) else
 if F.fits (group l)=true then
  if(Dx D F.w (group l)).2.2=0 then((Dx D F.w (group l)).1,{ F with m:=made F.m l,w:=(Dx D F.w (group l)).2.1 },0)
  else((Dx D F.w (group l)).1,{ F with w:=(Dx D F.w (group l)).2.1,fault:=(Dx D F.w (group l)).2.2 },(Dx D F.w (group l)).2.2)
 else OW D F (made F.m l)
structure Calm(D:A8)(F:St):Prop where
 disk:D.Calm
 n8:8≤D.n
 log:F.log=lg D.n
 size:F.size=sz D.n
 AL:F.AL≤1
 Ri:F.w.from_=1
 wn:F.w.n=F.log
 DL:logAt D.base F.w
 wf:F.w.fault=0
 fault:F.fault=0
 good:Good F.m
 up:Up F.m
 room:used F.m≤F.room
 load:∃ num A cs,Nn D.base F.log F.size=some (F.AL,num,A)∧num≤F.w.gen∧Qd F.w.groups=some cs∧F.m=OX A cs
def bY(D:A8)(F:St)(D':A8):Prop:=fP D=(some F,D',0)∧Calm D' F∧D'.n=D.n
theorem Calm.opens{D:A8}{F:St}(h:Calm D F):bY D F D:=by
 refine⟨?_,h,rfl⟩;obtain⟨num,A,cs,h1,h2,h3,h4⟩:=h.load;have hw:=h.DL;unfold logAt at hw;rw[h.Ri,h.wn,h.log] at hw;rw[h.log,h.size] at h1;unfold fP;rw[Ab (by have:=h.n8;omega),Ab (by simp[h.disk.up]),h.disk.now,h1];simp only;rw[hw];simp only;rw[Ab (by omega),h3];simp only;rw[Ab (by omega),←h4];have e:(⟨1,lg D.n,F.w.gen,F.w.used,F.w.groups,0⟩:BD)=F.w:=by
  have a1:=h.Ri;have a2:=h.wn;have a3:=h.wf;have a4:=h.log;cases hF:F.w;rw[hF] at a1 a2 a3;simp only at a1 a2 a3;subst a1 a3;rw[a2,a4]
 rw[e];have a1:=h.log;have a2:=h.size;have a3:=h.fault;cases F;simp only at a1 a2 a3;subst a1 a2 a3;rfl
theorem aln{f g:Nat→T}{log size a num:Nat}{A:M}(h:Nn f log size=some (a,num,A))(h0:g 0=f 0)(h1:∀ j,CV log size a≤j→j < CV log size a+size→g j=f j):Nn g log size=some (a,num,A):=by
 unfold Nn at*;rw[h0];by_cases h2:f 0=pad [0]
 ·rw[Ad h2] at h ⊢;exact h
 ·rw[Ab h2] at h ⊢;by_cases h3:((f 0).getD 4 0).toNat≤1∧f 0=mark ((f 0).getD 4 0).toNat (val (((f 0).take 13).drop 5))
  ·rw[Ad h3] at h;have ha:((f 0).getD 4 0).toNat=a:=by
    cases hc:cut (A8.text f (CV log size ((f 0).getD 4 0).toNat) size) with
    |none=>rw[hc] at h;cases h
    |some p=>
     rw[hc] at h;simp only[CL] at h;obtain⟨m,_,e⟩:=SA.1 h;simp only[ML] at e;exact e.1
   rw[Ad h3,ha,A8.Qc (g:=f) _ _ (fun i b c=>h1 i b (by omega))];rw[ha] at h;exact h
  ·rw[Ab h3] at h;cases h
theorem Calm.near{D E:A8}{F F':St}(h:Calm D F)(hE:E.Calm)(hn:E.n=D.n)(hl:logAt E.base F'.w)(e:F'={ F with w:=F'.w })(e1:F'.w.from_=1)(e2:F'.w.n=F.w.n)(e3:F'.w.fault=0)(hg:F.w.gen≤F'.w.gen)(hG:F'.w.groups=F.w.groups)
  (hb:∀ j,(j=0∨CV F.log F.size F.AL≤j∧j < CV F.log F.size F.AL+F.size)→E.base j=D.base j):Calm E F':=by
 obtain⟨num,A,cs,h1,h2,h3,h4⟩:=h.load;have f1:F'.log=F.log:=by rw[e]
 have f2:F'.size=F.size:=by rw[e]
 have f3:F'.AL=F.AL:=by rw[e]
 have f4:F'.m=F.m:=by rw[e]
 have f5:F'.fault=F.fault:=by rw[e]
 refine⟨hE,by rw[hn];exact h.n8,by rw[f1,hn];exact h.log,by rw[f2,hn];exact h.size,by rw[f3];exact h.AL,e1,by rw[e2,f1];exact h.wn,hl,e3,by rw[f5];exact h.fault,by rw[f4];exact h.good,by rw[f4];exact h.up,by unfold St.room;rw[f4,f2];exact h.room,num,A,cs,?_,by omega,by rw[hG];exact h3,by rw[f4];exact h4⟩;rw[f1,f2,f3];exact aln h1 (hb 0 (.inl rfl)) (fun j a b=>hb j (.inr ⟨a,b⟩))
theorem Calm.GX{D:A8}{F:St}(h:Calm D F)(keep:List UInt8):Calm (D.GX keep) F:=by
 rw[h.disk.GX];exact h.near (h.disk.left (by omega) (by omega)) rfl h.DL (by cases F;rfl) h.Ri rfl h.wf (Ae _) rfl (fun _ _=>rfl)
theorem Calm.QE{D:A8}{F:St}(h:Calm D F){n:Int}(hn:n≤9223372036854775807):Calm (D.QE n) F:=
 h.near (h.disk.left (n:=max n (-1)) (by omega) (by omega)) rfl h.DL (by cases F;rfl) h.Ri rfl h.wf (Ae _) rfl (fun _ _=>rfl)
theorem ayM:pad [0]=List.replicate 64 0:=rfl
theorem Calm.new{n:Nat}(h8:8≤n)(hn:n≤16384):Calm (A8.new n) ⟨lg n,sz n,0,[],⟨1,lg n,0,0,[],0⟩,0⟩:=by
 obtain⟨h1,h2,h3⟩:=aA h8;refine⟨⟨A8.BO.new (by omega) hn,rfl,rfl⟩,h8,rfl,rfl,AV _,rfl,rfl,?_,rfl,rfl,fun p hp=>by simp at hp,Up.nil,by unfold used St.room;simp;omega,0,[],[],?_,Ae _,rfl,rfl⟩
 ·show Jq (A8.text (fun _=>Ns) 1 (lg n)) (lg n)=some (0,0,[])
  rw[A8.ao4];unfold Jq;have e:(List.replicate (64*lg n) (0:UInt8)).take 64=pad [0]:=by
   rw[List.take_replicate,Ih (by omega)];rfl
  rw[e,Ad rfl]
 ·show Nn (fun _=>Ns) _ _=_
  unfold Nn;exact Ad rfl
theorem aC(a num:Nat):∃ z,mark a num=[70,73,76,49]++([UInt8.ofNat a]++(le 8 num++z)):=by
 unfold mark pad A9.Fx;simp only[Dz];exact⟨_,rfl⟩
theorem alD(a num:Nat)(ha:a≤1):(mark a num).getD 4 0=UInt8.ofNat a∧((mark a num).getD 4 0).toNat=a:=by
 obtain⟨z,e⟩:=aC a num;have e1:(mark a num).getD 4 0=UInt8.ofNat a:=by rw[e];rfl
 exact⟨e1,by rw[e1,YC,Nat.mod_eq_of_lt (by omega)]⟩
theorem alE(a num:Nat)(hn:num < 18446744073709551616):val (((mark a num).take 13).drop 5)=num:=by
 obtain⟨z,e⟩:=aC a num;have e1:((mark a num).take 13).drop 5=le 8 num:=by
  rw[e,←Dz,List.drop_take,MI (show([70,73,76,49]++[UInt8.ofNat a]).length=5 from rfl),IU (by rw[A9.C9])]
 rw[e1];exact YF 8 _ (by omega)
theorem uh(a num:Nat):mark a num≠pad [0]:=fun h=>by
 obtain⟨z,e⟩:=aC a num;rw[e,ayM] at h;have:=congrArg (fun l=>l.head?) h;simp at this
theorem axD{f:Nat→T}{log size a num:Nat}{m:M}{R:T}(ha:a≤1)(hn:num < 18446744073709551616)(hu:Up m)(hg:Good m)(hb:used m < 4294967296)(h0:f 0=mark a num)(h1:A8.text f (CV log size a) size=le 4 (bytes m).length++(bytes m++R)):Nn f log size=some (a,num,m):=by
 unfold Nn;rw[h0,Ab (uh a num),(alD a num ha).2,alE a num hn,Ad ⟨ha,rfl⟩,h1,zG _ _ (by rw[zn];exact hb)];simp only[CL];rw[azJ hu hg (by have:=Rf m;omega)];rfl
theorem afI(m:M):(Qz m).length=(4+used m+63) / 64*64:=by
 unfold Qz;rw[Sg,AA,A9.C9,zn]
theorem aqK(m:M):∃ z,Qz m=le 4 (bytes m).length++(bytes m++z):=by
 unfold Qz pad;exact⟨_,by rw[Dz]⟩
structure ae6(D:A8)(F:St)(l:List Am)(r:A8×St×Int):Prop where
 n:r.1.n=D.n
 fine:r.1.BO
 same:r.2.1.log=F.log∧r.2.1.size=F.size
 out:(r.2.2=0∧Calm r.1 r.2.1∧r.2.1.m=made F.m l∧r.2.1.w.gen≤F.w.gen+1∧(D.left= -1→r.1.left= -1))∨
  (r.2.2=40∧D.left≠ -1∧r.2.1.fault=40∧r.2.1.m=F.m∧r.1.down=true∧∀ keep,∃ F' D',bY (r.1.GX keep) F' D'∧D'.left= -1∧F'.w.gen≤F.w.gen+1∧(F'.m=F.m∨F'.m=made F.m l))
theorem pY{D:A8}(h:D.BO)(keep:List UInt8):(D.GX keep).Calm:=⟨h.GX keep,rfl,rfl⟩
theorem axq{D:A8}{F:St}(h:Calm D F)(aji:F.w.gen < 9223372036854775808){m:M}(hu:Up m)(hg:Good m)(hr:used m≤F.room){l:List Am}(hm:m=made F.m l):ae6 D F l (OW D F m):=by
 obtain⟨g1,g2,g3⟩:=aA h.n8;have kQ:=h.log;have JJ:=h.size;have hF:=h.disk.fine;have GM:=hF.n2;have hl:=h.DL;have hwn:=h.wn;have hwf:=h.Ri;have jU:=h.AL;unfold St.room at hr;have hA:(1 -F.AL)≤1:=by omega
 have rC:=afI m;obtain⟨k,hk⟩:∃ k,(Qz m).length=64*k:=⟨(4+used m+63) / 64,by omega⟩;have I6:k≤F.size:=by omega
 have auZ:CV F.log F.size (1 -F.AL)+F.size≤D.n∧1+F.log≤CV F.log F.size (1 -F.AL)∧(CV F.log F.size F.AL+F.size≤CV F.log F.size (1 -F.AL)∨CV F.log F.size (1 -F.AL)+F.size≤CV F.log F.size F.AL):=by
  unfold CV;rcases Nat.lt_or_ge F.AL 1 with e|e
  ·obtain e0:F.AL=0:=(by omega);rw[e0];omega
  ·obtain e0:F.AL=1:=(by omega);rw[e0];omega
 obtain⟨b1,b2,b3⟩:=auZ;have Jk:(F.w.gen+1) % 18446744073709551616=F.w.gen+1:=Nat.mod_eq_of_lt (by omega);have EH:=O4 (1 -F.AL) (F.w.gen+1);have aaM:Ib F m=[fun D=>D.write ((CV F.log F.size (1 -F.AL):Nat):Int) (Qz m),A8.flush]++[fun D=>D.write ((0:Nat):Int) (mark (1 -F.AL) (F.w.gen+1)),A8.flush]:=by unfold Ib;rw[Jk];rfl
 have hold:∀ E:A8,E.Calm→E.n=D.n→(∀ j,j < CV F.log F.size (1 -F.AL)∨CV F.log F.size (1 -F.AL)+F.size≤j→E.base j=D.base j)→Calm E F:=fun E hE hn hb=>
  h.near hE hn (acx hl (fun j c d=>hb j (.inl (by omega)))) (by cases F;rfl) h.Ri rfl h.wf (Ae _) rfl (fun j hj=>hb j (by rcases hj with rfl|hj;exact .inl (by omega);omega))
 unfold OW;rw[aaM,agD];have w1:=nI h.disk (at_:=CV F.log F.size (1 -F.AL)) (k:=k) (s:=Qz m) hk (by omega);generalize Bu [fun D=>D.write ((CV F.log F.size (1 -F.AL):Nat):Int) (Qz m),A8.flush] D=r1 at*;rcases w1 with⟨e1,c1,n1,q1,l1⟩|⟨e1,l1,f1,d1,n1,q1⟩
 ·rw[Ad e1];have w2:=nI c1 (at_:=0) (k:=1) (s:=mark (1 -F.AL) (F.w.gen+1)) (by omega) (by omega);generalize Bu [fun D=>D.write ((0:Nat):Int) (mark (1 -F.AL) (F.w.gen+1)),A8.flush] r1.1=r2 at*;rcases w2 with⟨e2,c2,n2,q2,l2⟩|⟨e2,l2,f2,d2,n2,q2⟩
  ·rw[Ad e2];have Ac:∀ j,j≠0→(j < CV F.log F.size (1 -F.AL)∨CV F.log F.size (1 -F.AL)+F.size≤j)→r2.1.base j=D.base j:=fun j h0 hj=>by
    rw[q2,R3 _ _ _ _ _ (by omega),q1,R3 _ _ _ _ _ (by omega)]
   have GK:logAt r2.1.base F.w:=acx hl (fun j c d=>Ac j (by omega) (.inl (by omega)));have w3:=aoN c2 (L:=F.w) h.wf (by omega) (by omega);obtain⟨z,ez⟩:=aqK m;have ajI:∀ E:A8,(∀ j,j < 1∨1+F.log≤j→E.base j=r2.1.base j)→Nn E.base F.log F.size=some (1 -F.AL,F.w.gen+1,m):=fun E hE=>by
    refine axD (R:=z++A8.text D.base (CV F.log F.size (1 -F.AL)+k) (F.size -k)) hA (by omega) hu hg (by omega) ?_ ?_
    ·rw[hE 0 (by omega),q2,acu _ _ _ EH]
    ·obtain⟨q,hq⟩:∃ q,F.size=k+q:=⟨F.size -k,by omega⟩;have e3:A8.text E.base (CV F.log F.size (1 -F.AL)) F.size=A8.text (A8.lay D.base (puts (CV F.log F.size (1 -F.AL)) (Qz m) k)) (CV F.log F.size (1 -F.AL)) F.size:=by
      refine A8.Qc _ _ (fun i c d=>?_);rw[hE i (by omega),q2,R3 _ _ _ _ _ (by omega),q1]
     rw[e3];generalize CV F.log F.size (1 -F.AL)=B at*;rw[hq,A8.YB,ady _ _ _ _ hk,A8.Qc (g:=D.base) (B+k) q (fun i c d=>R3 _ _ _ _ _ (by omega)),ez,show k+q -k=q by omega];simp only[Dz]
   generalize DN r2.1 F.w=r3 at*;have rU:F.w.Uw=⟨1,F.log,F.w.gen+1,0,[],0⟩:=by
    unfold BD.Uw;rw[Jk];have a1:=h.Ri;have a2:=h.wn;have a3:=h.wf;cases qV:F.w;rw[qV] at a1 a2 a3;simp only at a1 a2 a3 ⊢;subst a1 a2 a3;rfl
   have aiM:∀ E:A8,E.Calm→E.n=D.n→logAt E.base (⟨1,F.log,F.w.gen+1,0,[],0⟩:BD)→(∀ j,j < 1∨1+F.log≤j→E.base j=r2.1.base j)→Calm E ⟨F.log,F.size,1 -F.AL,m,⟨1,F.log,F.w.gen+1,0,[],0⟩,0⟩:=fun E hE hn hw hb=>
    ⟨hE,by rw[hn];exact h.n8,by rw[hn];exact h.log,by rw[hn];exact h.size,hA,rfl,rfl,hw,rfl,rfl,hg,hu,hr,F.w.gen+1,m,[],ajI E hb,Ae _,rfl,rfl⟩
   rcases w3 with⟨e3,o3,c3,n3,g3,q3,l3⟩|⟨e3,l3,o3,f3,d3,n3,q3⟩
   ·rw[Ad e3];rw[rU] at o3 g3;refine⟨n3.trans (n2.trans n1),c3.fine,⟨rfl,rfl⟩,.inl ⟨rfl,?_,hm,by rw[o3];exact Ae _,fun e=>l3 (l2 (l1 e))⟩⟩;have:=aiM r3.1 c3 (n3.trans (n2.trans n1)) g3 (fun j hj=>q3 j (by omega));rw[o3];have aj9:=h.fault;cases F;simp only at aj9;subst aj9;exact this
   ·have hne:r3.2.2≠0:=(by rw[e3];decide);rw[Ab hne];refine⟨n3.trans (n2.trans n1),f3,⟨rfl,rfl⟩,.inr ⟨e3,fun e=>l3 (l2 (l1 e)),e3,rfl,d3,fun keep=>?_⟩⟩;have dF:(r3.1.GX keep).n=D.n:=n3.trans (n2.trans n1);have hEC:=pY f3 keep;have hEb:=q3 keep;have XD:(r3.1.GX keep).left= -1:=rfl;generalize r3.1.GX keep=E at*;have hlE:logAt E.base F.w:=acx GK (fun j _ _=>hEb j);have w4:=aoN hEC (L:=F.w) h.wf (by omega) (by omega);rcases w4 with⟨e4,o4,c4,n4,g4,q4,l4⟩|⟨_,l4,_⟩
    ·rw[rU] at o4 g4;refine⟨_,_,⟨?_,aiM (DN E F.w).1 c4 (n4.trans dF) g4 (fun j hj=>(q4 j (by omega)).trans (hEb j)),n4⟩,l4 XD,Ae _,.inr hm⟩;have hw:=hlE;unfold logAt at hw;rw[h.Ri,h.wn,h.log] at hw;have sH:=ajI E (fun j _=>hEb j);rw[h.log,h.size] at sH;obtain⟨_,_,cs,_,_,DF,_⟩:=h.load;unfold fP;rw[dF,Ab (by have:=h.n8;omega),Ab (by simp[hEC.up]),hEC.now,sH];simp only;rw[hw];simp only;rw[Ab (by omega),DF];simp only;rw[Ad (by omega)];have e:(⟨1,lg D.n,F.w.gen,F.w.used,F.w.groups,0⟩:BD)=F.w:=by
      have a1:=h.Ri;have a2:=h.wn;have a3:=h.wf;have a4:=h.log;cases hF3:F.w;rw[hF3] at a1 a2 a3;simp only at a1 a2 a3;subst a1 a3;rw[a2,a4]
     rw[e,Ad e4,o4,h.log,h.size]
    ·exact absurd XD l4
  ·have hne:r2.2≠0:=(by rw[e2];decide);rw[Ab hne];refine⟨n2.trans n1,f2,⟨rfl,rfl⟩,.inr ⟨e2,fun e=>l2 (l1 e),e2,rfl,d2,fun keep=>⟨F,_,(hold _ (pY f2 keep) (n2.trans n1) (fun j hj=>?_)).opens,rfl,by omega,.inl rfl⟩⟩⟩;rw[q2 keep j (.inr (.inr rfl)),q1,R3 _ _ _ _ _ (by omega)]
 ·have hne:r1.2≠0:=by rw[e1];decide
  rw[Ab hne,Ab hne];exact⟨n1,f1,⟨rfl,rfl⟩,.inr ⟨e1,l1,e1,rfl,d1,fun keep=>⟨F,_,(hold _ (pY f1 keep) n1 (fun j hj=>q1 keep j (by omega))).opens,rfl,by omega,.inl rfl⟩⟩⟩
theorem agb{D:A8}{F:St}(h:Calm D F)(aji:F.w.gen < 9223372036854775808){l:List Am}(hl:l.all Am.may=true)(hr:used (made F.m l)≤F.room):ae6 D F l (JC D F l):=by
 have hall:∀ c∈l,c.may=true:=MH.1 hl;have hu:=h.up.made l;have hg:=h.good.made h.up hall;obtain⟨g1,g2,g3⟩:=aA h.n8;have kQ:=h.log;have JJ:=h.size;have hwn:=h.wn;have hwf:=h.Ri;have jU:=h.AL;have hF:=h.disk.fine;unfold JC;rw[Ab (by simp[h.fault]),Ab (by simp[hl]),Ab (by omega)];by_cases Ji:F.fits (group l)=true
 ·rw[Ad Ji];unfold St.fits at Ji;cases Jj:I4 (group l) with
  |none=>rw[Jj] at Ji;cases Ji
  |some s=>
   rw[Jj] at Ji;have Ji:s.length / 64≤F.w.n -1 -F.w.used:=(by simpa using Ji);have w1:=aCz h.disk h.DL h.wf (by omega) (by omega) Jj (by omega);generalize Dx D F.w (group l)=r1 at*;obtain⟨num,A,cs,i1,i2,i3,i4⟩:=h.load;rcases w1 with⟨e1,o1,c1,n1,a1,q1,l1⟩|⟨e1,l1,o1,f1,d1,n1,q1⟩
   ·rw[Ad e1];refine⟨n1,c1.fine,⟨rfl,rfl⟩,.inl ⟨rfl,?_,rfl,by rw[o1];show F.w.gen≤_;omega,l1⟩⟩;refine⟨c1,by rw[n1];exact h.n8,by show F.log=lg r1.1.n;rw[n1];exact h.log,by show F.size=sz r1.1.n;rw[n1];exact h.size,h.AL,by rw[o1];exact h.Ri,by rw[o1];exact h.wn,by rw[o1];exact a1,by rw[o1];exact h.wf,h.fault,hg,hu,hr,num,A,cs++[l],?_,by rw[o1];exact i2,?_,?_⟩
    ·show Nn r1.1.base F.log F.size=some (F.AL,num,A)
     have hb:1+F.log≤CV F.log F.size F.AL:=(by unfold CV;omega);exact aln i1 (q1 0 (by omega)) (fun j b c=>q1 j (by omega))
    ·rw[o1]
     show Qd (F.w.groups++[group l])=_
     rw[aBL,i3,aoe l hall];rfl
    ·show made F.m l=_
     rw[aly,←i4]
   ·have hne:r1.2.2≠0:=(by rw[e1];decide);rw[Ab hne];refine⟨n1,f1,⟨rfl,rfl⟩,.inr ⟨e1,l1,e1,rfl,d1,fun keep=>⟨F,_,Calm.opens ?_,rfl,by omega,.inl rfl⟩⟩⟩;have hb:1+F.log≤CV F.log F.size F.AL:=(by unfold CV;omega);exact h.near (pY f1 keep) n1 (q1 keep).1 (by cases F;rfl) h.Ri rfl h.wf (Ae _) rfl (fun j hj=>(q1 keep).2 j (by omega))
 ·rw[Ab Ji];exact axq h aji hu hg hr rfl
