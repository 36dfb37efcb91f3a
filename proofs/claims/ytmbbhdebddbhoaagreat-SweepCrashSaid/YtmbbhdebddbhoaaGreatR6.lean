/- StrHeap WalT DiskCopy2 Trod2 DiskH Both Same DiskLaw DiskAlive KeepsRep WalRep -/
import Derived.StringKeys
import Derived.Test.YtmbbhdebddbhoaaGreatR5
import Derived.MapKept
import Derived.Deep.Slices
import Derived.Deep.Fields
import Derived.ChangeArms
set_option maxHeartbeats 2000000
set_option maxRecDepth 100000
set_option linter.all false
namespace Go.Proofs.YtmbbhdebddbhoaaGreat
open Tryz
section
open Go.RowKit Go.Maps Go.WideMaps
theorem uo{P:Program}{k:TypeId}(hk:P.underlying k=some .string){x:List UInt8}(hx:x.length≤maxLen):keyOf P k (.string (bs x))=some (.string x):=by
 have:=keyOf_string_mk hk (s:=bs x) hx;simpa using this
def Dh(kv:List (List UInt8×Value))(i:List UInt8):Option Value:=(kv.find? (fun p=>p.1 == i)).map (·.2)
def Ir(i:List UInt8)(kv:List (List UInt8×Value)):List (List UInt8×Value):=kv.filter (fun p=>!(p.1 == i))
def Qv(i:List UInt8)(v:Value)(kv:List (List UInt8×Value)):List (List UInt8×Value):=(i,v) :: Ir i kv
theorem ayT(i:List UInt8)(kv:List (List UInt8×Value)):Dh (Ir i kv) i=none:=by
 unfold Dh Ir;rw[Option.map_eq_none_iff,List.find?_eq_none];intro p hp;have:=(Et.1 hp).2;simpa using this
theorem amK{i j:List UInt8}(h:j≠i)(kv:List (List UInt8×Value)):Dh (Ir i kv) j=Dh kv j:=by
 unfold Dh Ir;rw[find_filter_keep];intro p hp;simp at hp ⊢;intro e;exact h (hp.symm.trans e)
theorem amN(i:List UInt8)(v:Value)(kv:List (List UInt8×Value)):Dh (Qv i v kv) i=some v:=by simp[Dh,Qv]
theorem amM{i j:List UInt8}(h:j≠i)(v:Value)(kv:List (List UInt8×Value)):Dh (Qv i v kv) j=Dh kv j:=by
 have h2:¬ i=j:=fun e=>h e.symm
 rw[←amK h kv];simp[Dh,Qv,h2]
theorem amI{i:List UInt8}{kv:List (List UInt8×Value)}(hn:(kv.map (·.1)).Nodup):(Ir i kv).length+(if(Dh kv i).isSome then 1 else 0)=kv.length:=by
 induction kv with
 |nil=>simp[Ir,Dh]
 |cons p kv ih=>
  simp only[BL,JF] at hn;have ih':=ih hn.2;by_cases h:p.1=i
  ·have h0:Dh kv i=none:=by
    unfold Dh;rw[Option.map_eq_none_iff,List.find?_eq_none];intro q hq;simp;intro e;exact hn.1 (by rw[h,←e];exact Gm hq)
   rw[h0] at ih';have e1:Ir i (p :: kv)=Ir i kv:=(by simp[Ir,h]);have e2:Dh (p :: kv) i=some p.2:=(by simp[Dh,h]);rw[e1,e2];simpa using ih'
  ·have e1:Ir i (p :: kv)=p :: Ir i kv:=(by simp[Ir,h]);have e2:Dh (p :: kv) i=Dh kv i:=(by simp[Dh,h]);rw[e1,e2];simp only[Br];omega
theorem amJ{i:List UInt8}{kv:List (List UInt8×Value)}(hn:(kv.map (·.1)).Nodup):((Ir i kv).map (·.1)).Nodup:=by
 unfold Ir;exact hn.sublist (List.Sublist.map _ List.filter_sublist)
theorem ayU{i:List UInt8}{v:Value}{kv:List (List UInt8×Value)}(hn:(kv.map (·.1)).Nodup):((Qv i v kv).map (·.1)).Nodup:=by
 simp only[Qv,BL,JF];refine⟨?_,amJ hn⟩;intro h;obtain⟨p,hp,e⟩:=Bz.1 h;have:=(Et.1 hp).2;simp[e] at this
theorem lh{kv:List (List UInt8×Value)}{i:List UInt8}{v:Value}(h:Dh kv i=some v):(i,v)∈kv:=by
 unfold Dh at h;obtain⟨p,hp,rfl⟩:=Tg.1 h;have h1:=List.find?_some hp;simp at h1;subst h1;exact List.mem_of_find?_eq_some hp
def StrMap(P:Program)(K:TypeId)(w:World)(m:Nat)(kv:List (List UInt8×Value)):Prop:=
 (kv.map (·.1)).Nodup∧∃ D:DataW Value,w.ownsMap P K QY m kv.length D∧Tidy D∧size D=kv.length∧∀ i z,D.atKey (.string i) z=(match Dh kv i with|some v=>.held v|none=>z)
section
variable {P:Program}{K T E:TypeId}{w:World}{m:Nat}{kv:List (List UInt8×Value)}
theorem StrMap.lt(h:StrMap P K w m kv):m < w.heap.size:=h.2.choose_spec.1.lt
theorem StrMap.made(w:World):StrMap P K (w.alloc (.map #[] 0)) w.heap.size []:=
 ⟨by simp,.map [],World.ownsMap_made w P K QY,tidy_empty,rfl,fun i z=>rfl⟩
theorem StrMap.kept{w':World}(h:StrMap P K w m kv)(e:w'.heap[m]?=w.heap[m]?):StrMap P K w' m kv:=by
 obtain⟨hn,D,⟨es,clock,hb,F,hs,hD⟩,rest⟩:=h;exact⟨hn,D,⟨es,clock,e.trans hb,F,hs,hD⟩,rest⟩
theorem StrMap.upd{F:Nat→Prop}{w':World}(h:StrMap P K w m kv)(hu:A7 F w w')(hF:¬ F m):StrMap P K w' m kv:=h.kept (hu.block m h.lt hF)
theorem StrMap.lookup(h:StrMap P K w m kv)(hk:P.underlying K=some .string)(ht:P.underlying T=some (.map K E)){z:Value}(hz:(zeroValue E).run P w=.ok z w)(i:List UInt8)(hw:i.length≤maxLen):
  (Instr.lookup T (.map (some m)) (.string (bs i)) false).run P w=.ok ((Dh kv i).getD z) w:=by
 obtain⟨_,D,hown,_,_,hat⟩:=h;obtain⟨v,ps,hrun,hv⟩:=hown.lookup (string_keyed hk) ht hz (zd:=.held z) (zp:=[]) rfl (uo hk hw);have e:=hat i (.held z);simp only[QY,BX,M5] at hv;rw[e] at hv;rw[hrun];cases hg:Dh kv i with
 |none=>rw[hg] at hv;simp at hv ⊢;exact hv.1
 |some u=>rw[hg] at hv;simp at hv ⊢;exact hv.1
theorem StrMap.Zu(h:StrMap P K w m kv)(hk:P.underlying K=some .string)(ht:P.underlying T=some (.map K E)){z:Value}(hz:(zeroValue E).run P w=.ok z w)(i:List UInt8)(hw:i.length≤maxLen):
  (Instr.lookup T (.map (some m)) (.string (bs i)) true).run P w=.ok (.tuple #[(Dh kv i).getD z,.bool (Dh kv i).isSome]) w:=by
 obtain⟨_,D,⟨es,clock,hb,F,_,rfl⟩,_,_,hat⟩:=h;rcases Maps.fit_look true (string_keyed hk) ht hz hb F (uo hk hw) with⟨hrun,_,h2⟩|⟨e0,y,_,_,hrun,pV,h2,_⟩
 ·cases hg:Dh kv i with
  |none=>simpa using hrun
  |some u=>
   have:=hat i .nil;rw[h2 .nil,hg] at this;cases this
 ·cases hg:Dh kv i with
  |none=>
   have:=hat i .nil;rw[h2 .nil,hg] at this;simp only[QY,BX] at pV;rw[←pV] at this;cases this
  |some u=>
   have:=hat i .nil;rw[h2 .nil,hg] at this;simp only[QY,BX] at pV;rw[←pV] at this;simp at this;simpa[this] using hrun
theorem StrMap.update(h:StrMap P K w m kv)(hk:P.underlying K=some .string)(ht:P.underlying T=some (.map K E))(i:List UInt8)(hw:i.length≤maxLen)(v:Value)(Im:kv.length < maxLen):
  ∃ w',(Instr.mapUpdate T (.map (some m)) (.string (bs i)) v).run P w=.ok () w'∧StrMap P K w' m (Qv i v kv)∧w.grownBy w' (some m):=by
 obtain⟨hn,D,hown,Uc,hsz,hat⟩:=h;obtain⟨w',hrun,BB,hg⟩:=hown.update (string_keyed hk) ht Im (key:=.string (bs i)) (val:=v) (uo hk hw) (d:=.held v) (ps:=[]) rfl;have Jc:size (D.put (.string i) (.held v))=(Qv i v kv).length:=by
  rw[size_put Uc,j3 (hat i),hsz];have:=amI (i:=i) hn;simp only[Qv,Br];cases Qa:(Dh kv i).isSome<;>simp[Qa] at this ⊢ <;>omega
 refine⟨w',hrun,⟨ayU hn,_,?_,Uc.put (show WideAt.IsKeyLit (.string i) from trivial) _,Jc,fun j z=>?_⟩,hg⟩
 ·obtain⟨es,clock,hb,F,_,hD⟩:=BB;refine⟨es,clock,hb,F,?_,hD⟩;rw[←Jc,hD,size_eq,length_sorted];simp
 ·by_cases e:j=i
  ·subst e;rw[atKey_put_same Uc.isMap (show WideAt.IsKeyLit (.string j) from trivial),amN]
  ·rw[atKey_put_other (fun e'=>e (by cases e';rfl)),amM e];exact hat j z
theorem StrMap.delete(h:StrMap P K w m kv)(hk:P.underlying K=some .string)(ht:P.underlying T=some (.map K E))(i:List UInt8)(hw:i.length≤maxLen)(ty:TypeId):
  ∃ w',(Builtin.delete_ #[T,K] ty #[.map (some m),.string (bs i)]).run P w=.ok (.tuple #[]) w'∧StrMap P K w' m (Ir i kv)∧w.grownBy w' (some m):=by
 obtain⟨hn,D,hown,Uc,hsz,hat⟩:=h;obtain⟨es,clock,hb,F,hs,hD⟩:=hown;obtain⟨es',hrun,F',hle,qC,_⟩:=Maps.fit_drop (ty:=ty) (string_keyed hk) ht hb F (uo hk hw);have hD':D.del (.string i)=.map ((es'.toList.map (WideElems.rg P K QY)).foldr DataW.insert []):=by rw[hD,DataW.del_eq,qC]
 have Jc:size (D.del (.string i))=(Ir i kv).length:=by
  have h1:=size_del (k:=.string i) Uc;rw[j3 (hat i),hsz] at h1;have:=amI (i:=i) hn;cases Qa:(Dh kv i).isSome<;>simp[Qa] at this h1<;>omega
 refine⟨_,hrun,⟨amJ hn,D.del (.string i),⟨es',clock,ChangeMaps.heap_setBlock_same hb _,F',?_,hD'⟩,Uc.del _,Jc,fun j z=>?_⟩,⟨rfl,rfl,rfl,by simp[ChangeMaps.setBlock],fun k _ hk'=>ChangeMaps.heap_setBlock_other hb _ (fun e=>hk' (by rw[e]))⟩⟩
 ·rw[←Jc,hD',size_eq,length_sorted];simp
 ·by_cases e:j=i
  ·subst e;rw[atKey_del_same,ayT]
  ·rw[atKey_del_other (fun e'=>e (by cases e';rfl)),amK e];exact hat j z
end
end
section
open Go.RowKit Go.Maps
open Wal
theorem adt(s:List UInt8)(w:World)(hs:s.length≤100000000):
  Calls prog 127 #[.string (bs s)] w fun e w'=>e=.returned (.string (bs (pad s)))∧Bw w w':=by
 obtain⟨N,hN⟩:∃ N:Nat,N=(s.length+63) / 64*64:=⟨_,rfl⟩;have hq:((s.length:Int)+64 -1) / 64*64=(N:Int):=by omega
 obtain⟨m,hm⟩:∃ m:Nat,m=N -s.length:=⟨_,rfl⟩;have Mr:(N:Int) -(s.length:Int)=(m:Int):=by omega
 have aaU:Hid (pad s=s++List.replicate m 0):=Hi (by unfold pad;rw[←hN,←hm]);have SA:m≤100:=by omega
 have KT:N≤100000100:=by omega
 obtain⟨C,Il,Ah⟩:=anq w m (by omega);have atI:=ZK prog (w.alloc (.cells C 5)) 232 5 9 underlying232 underlying5 underlying9 w.heap.size 0 m m (List.replicate m 0) List.length_replicate (fun i h=>by rw[GJ];exact Ah.cell i h);clear Ah hN hm;go_enter func127,ntmps127;go_wp2_with fail;go_ret;rw[aaU.out];exact⟨rfl,(Af _ _).alloc (Ac _) _⟩
theorem kH(gen used:Nat)(w:World)(hg:gen < 18446744073709551616)(hu:used < 4294967296):
  Calls prog 128 #[.int .u64 gen,.int .i64 used] w fun e w'=>e=.returned (.string (bs (Wal.mark gen used)))∧Bw w w':=by
 have HG:=Hi hg;have Ep:(used:Int)≤4294967295:=by omega
 have jE:({ data:=#[76,79,71,49] }:ByteArray)=bs [76,79,71,49]:=rfl;clear hg;go_enter func128,ntmps128;go_wp2_with fail;refine(ZE gen 8 _ (by have:=HG.out;exact this) (by decide) (by decide)).mono ?_;rintro e w1⟨rfl,Ad⟩;have HB1:=Hi Ad;clear Ad;go_wp2_with fail;refine(ZE used 4 _ hu (by decide) (by decide)).mono ?_;rintro e w2⟨rfl,A8⟩;have Ag:=Hi (HB1.trans (A8.mono HB1.size));clear A8;go_wp2_with fail;refine(dX (76 :: 79 :: 71 :: 49 :: (Crc.le 8 gen++Crc.le 4 used)) _ (by simp[Crc.BK])).mono ?_;rintro e w3⟨rfl,Ak⟩;have Am:=Hi (Ag.trans (Ak.mono Ag.size));clear Ak;go_wp2_with fail;refine(adt (Crc.EW (76 :: 79 :: 71 :: 49 :: (Crc.le 8 gen++Crc.le 4 used))) _ (by rw[Crc.Rk];simp[Crc.BK])).mono ?_;rintro e w4⟨rfl,Ar⟩;have AZ:=Hi (Am.trans (Ar.mono Am.size));clear Ar;go_wp2_with fail;go_ret;exact⟨rfl,AZ⟩
def J8(l:List (List UInt8)):List UInt8×Int:=match GQ l with|none=>([],5)|some t=>(t,0)
theorem tV{l:List (List UInt8)}{s:List UInt8}(h:FZ l=some s):s.length=rowLen l:=by
 unfold FZ at h;split at h
 ·cases h1:textsE l with
  |none=>rw[h1] at h;cases h
  |some a=>
   rw[h1] at h;simp at h;subst h;have:=VP h1;simp[Crc.BK];omega
 ·cases h
theorem bu(l:List (List UInt8))(a:Option Addr)(cap:Nat)(w:World)(hl:Cg w a l)(hlen:l.length≤maxLen)(CB:rowLen l≤10000000):
  Calls prog 170 #[.slice a l.length cap] w fun e w'=>e=.returned (.tuple #[.string (bs (J8 l).1),.int .i64 (J8 l).2])∧Bw w w':=by
 have HL:=Hi hl;have EY:=Hi hlen;clear hl hlen;cases hr:FZ l with
 |none=>
  have hR:Cq l=([],5):=by unfold Cq;rw[hr]
  have hG:J8 l=([],5):=by unfold J8 GQ;rw[hr];rfl
  have HR:=Hi hR;rw[hG];clear hr hR hG;go_enter func170,ntmps170;go_wp2_with fail;refine(ali l a cap w HL EY (by omega)).mono ?_;rw[HR.out];rintro e w1⟨rfl,hb⟩;have HB:=Hi hb;clear hb;go_wp2_with fail;go_ret2;exact⟨rfl,HB⟩
 |some s=>
  have hR:Cq l=(s,0):=by unfold Cq;rw[hr]
  have hG:J8 l=(pad (Crc.le 4 s.length++s),0):=by unfold J8 GQ;rw[hr];rfl
  have Cz:=tV hr;have UN:=Hi CB;have HR:=Hi hR;rw[hG];clear hr hR hG;rw[←Cz] at CB;clear Cz;go_enter func170,ntmps170;go_wp2_with fail;refine(ali l a cap w HL EY (by have:=UN.out;omega)).mono ?_;rw[HR.out];rintro e w1⟨rfl,hb⟩;have HB:=Hi hb;clear hb;go_wp2_with fail;refine(ZE s.length 4 _ (by omega) (by decide) (by decide)).mono ?_;rintro e w2⟨rfl,A8⟩;have Ag:=Hi (HB.trans (A8.mono HB.size));clear A8;go_wp2_with fail;refine(adt (Crc.le 4 s.length++s) _ (by simp[Crc.BK];omega)).mono ?_;rintro e w3⟨rfl,Ak⟩;have Am:=Hi (Ag.trans (Ak.mono Ag.size));clear Ak;go_wp2_with fail;go_ret2;exact⟨rfl,Am⟩
end
section
open Go.RowKit Go.Maps
open Wal
theorem Ny(P:Program)(W:World)(t:TypeId)(hu:P.underlying t=some .string)(s:List UInt8)(hi:Nat)(h2:hi≤s.length):
  (Instr.slice t (.string (bs s)) none (some (.int .i64 (hi:Int))) none).run P W=.ok (.string (bs (s.take hi))) W:=by
 have g2:(hi:Int)≤(s.length:Int):=by omega
 simp[Instr.slice,Gp hu,Instr.sliceBounds,run_sliceBound,go_sem,g2]
theorem ams(P:Program)(W:World)(t:TypeId)(hu:P.underlying t=some .string)(s:List UInt8)(lo hi:Nat)(h1:lo≤hi)(h2:hi≤s.length):
  (Instr.slice t (.string (bs s)) (some (.int .i64 (lo:Int))) (some (.int .u64 (hi:Int))) none).run P W=.ok (.string (bs ((s.take hi).drop lo))) W:=by
 have g2:(hi:Int)≤(s.length:Int):=by omega
 simp[Instr.slice,Gp hu,Instr.sliceBounds,run_sliceBound,go_sem,h1,g2]
theorem uD{w:World}{base:Nat}{v:Value}{l:List (List UInt8)}(h:w.ownsRow base 9 1 v l.length (strCells l)):∃ a cap,v=.slice a l.length cap∧Cg w a l:=by
 rcases h.2 with⟨e1,e2⟩|⟨g,cap,cur,e1,_⟩
 ·exact⟨none,0,by rw[e1,e2],fun i hi=>by omega⟩
 ·subst e1;refine⟨_,cap,rfl,fun i hi=>⟨⟨g,0,none⟩,rfl,?_⟩⟩;exact h.cells (g:=g) rfl i _ (XL l i hi)
def aO(w:World)(s:List UInt8)(e:Ending)(w':World):Prop:=
 match Ko s with
 |none=>e=.returned (.tuple #[.slice none 0 0,.int .i64 0,.bool false])∧Bw w w'
 |some (l,k)=>∃ v,e=.returned (.tuple #[v,.int .i64 (k:Int),.bool true])∧w'.ownsRow 0 9 1 v l.length (strCells l)∧Bw w w'∧∀ g,v.ownBlock=some g→w.heap.size≤g
theorem sM{w w':World}{s:List UInt8}{e:Ending}(h:Ko s=none)(he:e=.returned (.tuple #[.slice none 0 0,.int .i64 0,.bool false]))(hb:Bw w w'):aO w s e w':=by
 unfold aO;rw[h];exact⟨he,hb⟩
theorem awR{w w':World}{s:List UInt8}{l:List (List UInt8)}{k:Nat}{e:Ending}{v:Value}(h:Ko s=some (l,k))(he:e=.returned (.tuple #[v,.int .i64 (k:Int),.bool true]))(ho:w'.ownsRow 0 9 1 v l.length (strCells l))(hb:Bw w w')(hg:∀ g,v.ownBlock=some g→w.heap.size≤g):aO w s e w':=by
 unfold aO;rw[h];exact⟨v,he,ho,hb,hg⟩
theorem asN{s:List UInt8}{l:List (List UInt8)}(h4:4≤s.length)(hv:Crc.val (s.take 4)≤s.length -4)(h:CW ((s.take (4+Crc.val (s.take 4))).drop 4)=some l):GQ l=some (pad (s.take (4+Crc.val (s.take 4))))∧rowLen l=Crc.val (s.take 4):=by
 have hr:=kU h;have hl:((s.take (4+Crc.val (s.take 4))).drop 4).length=Crc.val (s.take 4):=by rw[Ce,AL];omega
 refine⟨?_,by rw[←tV hr,hl]⟩;unfold GQ;rw[hr];simp only[Ej];rw[hl];have e:Crc.le 4 (Crc.val (s.take 4))=s.take 4:=by
  have:=Crc.kD (s.take 4);rwa[AL,H8 h4] at this
 rw[e];generalize Crc.val (s.take 4)=v at*;have h3:s.take 4=(s.take (4+v)).take 4:=by rw[List.take_take,H8 (by omega)]
 rw[h3,M4]
theorem awS(s:List UInt8)(w:World)(hs:s.length≤10000000)(Va:s.length % 64=0):
  Calls prog 129 #[.string (bs s)] w fun e w'=>aO w s e w':=by
 by_cases h0:s.length < 64
 ·have hN:Hid (Ko s=none):=Hi (by unfold Ko;rw[Ab h0]);go_enter func129,ntmps129;go_wp2_with fail;go_ret3;exact sM hN.out rfl (Af _ _)
 ·have LA:∀ W,(Instr.slice 9 (.string (bs s)) none (some (.int .i64 4)) none).run prog W=.ok (.string (bs (s.take 4))) W:=fun W=>Ny prog W 9 underlying9 s 4 (by omega)
  have Kh:(s.take 4).length=4:=by rw[AL];omega
  have hv:=Crc.Ji (s.take 4);rw[Kh] at hv;have Nk:=fun(W:World)=>WO (s.take 4) W (by omega) (by omega)
  have hG:=fun(l:List (List UInt8))=>@asN s l
  have PY:Ko s=if Crc.val (s.take 4)≤s.length -4 then
   (CW ((s.take (4+Crc.val (s.take 4))).drop 4)).bind fun l=>
    if pad (s.take (4+Crc.val (s.take 4)))=s.take (pad (s.take (4+Crc.val (s.take 4)))).length then some (l,(pad (s.take (4+Crc.val (s.take 4)))).length) else none
   else none:=by unfold Ko;rw[Aa h0]
  generalize Crc.val (s.take 4)=v at*;have abr:v < 4294967296:=hv;have MS:=Hi Nk;have HG:=Hi hG;have FY:IntKind.u64.wrap ((s.length:Int) -4)=(s.length:Int) -4:=IntWalk.u64_in _ (by omega);clear Kh hv Nk hG;by_cases Xt:v≤s.length -4
  ·rw[Ab Xt] at PY;have hvi:(v:Int)≤(s.length:Int) -4:=(by omega);have Ns:IntKind.u64.wrap (4+(v:Int))=4+(v:Int):=IntWalk.u64_in _ (by omega);have hcu:∀ W,(Instr.slice 9 (.string (bs s)) (some (.int .i64 4)) (some (.int .u64 (4+(v:Int)))) none).run prog W=.ok (.string (bs ((s.take (4+v)).drop 4))) W:=fun W=>by
    have:=ams prog W 9 underlying9 s 4 (4+v) (by omega) (by omega);rw[Int.natCast_add] at this;exact this
   cases hr:CW ((s.take (4+v)).drop 4) with
   |none=>
    have hN:Hid (Ko s=none):=Hi (by rw[PY,hr];rfl);have HR:=Hi hr;clear PY hr;go_enter func129,ntmps129;go_wp2_with fail;refine(MS _).mono ?_;rintro e w1⟨rfl,rfl⟩;go_wp2_with fail;refine(kT ((s.take (4+v)).drop 4) _ (by rw[Ce,AL];omega)).mono ?_;intro e w1 hp;unfold Lr at hp;rw[HR.out] at hp;obtain⟨rfl,hb⟩:=hp;have HB:=Hi hb;clear hb;go_wp2_with fail;go_ret3;exact sM hN.out rfl HB.out
   |some l=>
    obtain⟨IL,Gi⟩:=HG l (by omega) Xt hr;have Mm:J8 l=(pad (s.take (4+v)),0):=(by unfold J8;rw[IL]);have HGV:=Hi Mm;have HR:=Hi hr;have JQ:=Hi Gi;rw[hr] at PY;simp only[Cj] at PY;have Nr:(pad (s.take (4+v))).length≤s.length:=(by rw[Rh,AL];omega);have hct:∀ W,(Instr.slice 9 (.string (bs s)) none (some (.int .i64 ((pad (s.take (4+v))).length:Int))) none).run prog W=.ok (.string (bs (s.take (pad (s.take (4+v))).length))) W:=fun W=>Ny prog W 9 underlying9 s _ Nr
    have EB:l.length≤100000000:=by
     have:=JQ.out;unfold rowLen at this;have h2:∀ (l:List (List UInt8)),l.length≤(l.map fun s=>2+s.length).sum:=by
      intro l
      induction l with
      |nil=>simp
      |cons x l ih=>simp;omega
     have:=h2 l;omega
    clear hr Mm IL Gi;generalize pad (s.take (4+v))=t at*;by_cases Km:t=s.take t.length
    ·rw[Ab Km] at PY;have EL:=Hi PY;have hbt:(t == s.take t.length)=true:=(by rw[←Km];simp);have TD:=Hi Km;clear PY Km;go_enter func129,ntmps129;go_wp2_with fail;refine(MS _).mono ?_;rintro e w1⟨rfl,rfl⟩;go_wp2_with fail;refine(kT ((s.take (4+v)).drop 4) _ (by rw[Ce,AL];omega)).mono ?_;intro e w1 hp;unfold Lr at hp;rw[HR.out] at hp;obtain⟨vv,rfl,ho,hb,hn⟩:=hp;obtain⟨qa,ca,rfl,Gj⟩:=uD ho;have HB:=Hi hb;have HO:=Hi ho;have HN:=Hi hn;have Ym:=Hi Gj;clear hb ho hn Gj;go_wp2_with fail;refine(bu l qa ca _ Ym (by unfold maxLen;omega) (by rw[JQ.out];omega)).mono ?_;rw[HGV.out];rintro e w2⟨rfl,A8⟩;have Ag:=Hi A8;clear A8;go_wp2_with fail;go_ret3;exact awR EL rfl (Bh HO (ub Ag) (fun _ _ f=>f)) (HB.trans (Ag.mono HB.size)) HN.out
    ·rw[Aa Km] at PY;have EL:=Hi PY;have hbt:(t == s.take t.length)=false:=(by simp[Km]);have TD:=Hi Km;clear PY Km;go_enter func129,ntmps129;go_wp2_with fail;refine(MS _).mono ?_;rintro e w1⟨rfl,rfl⟩;go_wp2_with fail;refine(kT ((s.take (4+v)).drop 4) _ (by rw[Ce,AL];omega)).mono ?_;intro e w1 hp;unfold Lr at hp;rw[HR.out] at hp;obtain⟨vv,rfl,ho,hb,hn⟩:=hp;obtain⟨qa,ca,rfl,Gj⟩:=uD ho;have HB:=Hi hb;have HO:=Hi ho;have HN:=Hi hn;have Ym:=Hi Gj;clear hb ho hn Gj;go_wp2_with fail;refine(bu l qa ca _ Ym (by unfold maxLen;omega) (by rw[JQ.out];omega)).mono ?_;rw[HGV.out];rintro e w2⟨rfl,A8⟩;have Ag:=Hi A8;clear A8;go_wp2_with fail;go_ret3;exact sM EL rfl (HB.trans (Ag.mono HB.size))
  ·have hN:Hid (Ko s=none):=Hi (by rw[PY,Aa Xt]);have hvi:(s.length:Int) -4 < (v:Int):=(by omega);clear PY;go_enter func129,ntmps129;go_wp2_with fail;refine(MS _).mono ?_;rintro e w1⟨rfl,rfl⟩;go_wp2_with fail;go_ret3;exact sM hN.out rfl (Af _ _)
end
section
open Go.RowKit Go.Maps
end
section
open Go.RowKit Go.Maps
section
variable {B:Nat}{w0 w:World}{b:Nat}{D:Dsk}{fp:Nat→Prop}
end
end
section
open Go.RowKit Go.WideShapes Go.ChangeShapes Go.Deep
theorem kE{α:Type}{P:Nat→α→Prop}:∀ (n:Nat),(∀ i,i < n→∃ x,P i x)→∃ l:List α,l.length=n∧∀ i,(h:i < l.length)→P i l[i]
 |0,_=>⟨[],rfl,fun i hi=>by simp at hi⟩
 |n+1,h=>by
  obtain⟨l,hl,hp⟩:=kE n (fun i hi=>h i (by omega));obtain⟨x,hx⟩:=h n (by omega);refine⟨l++[x],by simp[hl],fun i hi=>?_⟩;by_cases Be:i < l.length
  ·rw[Rp Be];exact hp i Be
  ·have:i=l.length:=(by simp at hi;omega);subst this;rw[Ux (Ac _)];simp;rw[hl];exact hx
theorem uO{H:Type}{P:Program}{e:TypeId}{x:DataW H}{l:List (DataW H)}(h:x∈l){n:Nat}(hn:n∈DataW.weights P e x):n∈DataW.weightsAll P e l:=by
 induction l with
 |nil=>simp at h
 |cons y l ih=>
  simp only[DataW.weightsAll,Fp];rcases Bt.1 h with rfl|h
  ·exact .inl hn
  ·exact .inr (ih h)
theorem VM{cs:List Value}{n:Nat}(hl:cs.length=n)(j:Nat)(hj:j < n):(cs.drop j).take 1=[cs[j]'(by omega)]:=by
 rw[Qz (by omega)];rfl
end
section
open Go.RowKit Go.WideShapes Go.ChangeShapes Go.Deep
end
section
open Go.RowKit Go.Maps
end
section
open Go.RowKit Go.Maps
end
section
open Go.RowKit Go.Maps
section
variable {B:Nat}{w0 w w':World}{b r:Nat}{D D' R R':Dsk}{fp fp' fr fr':Nat→Prop}
end
section
variable {B:Nat}{w0 w:World}{b r:Nat}{D R:Dsk}{fp fr:Nat→Prop}
end
end
section
open Go.RowKit Go.Maps
section
variable {B:Nat}{w0 w:World}{b r:Nat}{D R:Dsk}{fp fr:Nat→Prop}
end
end
section
namespace Dsk
theorem aAA(D:Dsk)(a:Nat)(s:List UInt8)(n:Nat):(writes D a s n).1.loose.length≤D.loose.length+n:=by
 induction n generalizing D a s with
 |zero=>exact Ac _
 |succ n ih=>
  simp only[writes];split
  ·show D.loose.length≤_;omega
  ·have:=ih { D with loose:=D.loose++[(a,s.take 64)],left:=max (D.left -1) (-1) } (a+1) (s.drop 64);have e:(D.loose++[(a,s.take 64)]).length=D.loose.length+1:=(by simp);simp only[e] at this;omega
theorem Te(D:Dsk)(a:Int)(s:List UInt8):(D.write a s).1.loose.length≤D.loose.length+s.length / 64:=by
 unfold write;split
 ·exact Nat.le_add_right _ _
 ·split
  ·exact aAA _ _ _ _
  ·exact Nat.le_add_right _ _
theorem TP(D:Dsk):D.flush.1.loose.length≤D.loose.length:=by unfold flush;split<;>simp
end Dsk
end
section
open Go.RowKit Go.Maps
end
section
open Go.RowKit Go.Maps
theorem Bl.kinds{w:World}{b:Nat}{D:Dsk}{fp:Nat→Prop}(h:Bl w b D fp)(k:Nat)(hk:fp k):¬ AA w k 9∧¬ AA w k 27:=by
 obtain⟨m,lv,hI,rfl⟩:=h;have key:∀ t,(t=9∨t=27)→¬ AA w k t:=by
  rintro t ht⟨cs,fr,hb⟩;rcases hk with rfl|rfl|hk
  ·rw[hI.struct] at hb;injection hb with hb
   injection hb with _ hb _
   subst hb;rcases ht with ht|ht<;>cases ht
  ·obtain⟨kv,⟨_,D',⟨es,clock,hm,_⟩,_⟩,_⟩:=hI.base;rw[hm] at hb;injection hb with hb
   cases hb
  ·rcases hI.loose.2 with⟨e1,_⟩|⟨g,cap,cur,e1,_,hg,_⟩
   ·subst e1;simp[Value.ownBlock] at hk
   ·subst e1;simp[Value.ownBlock] at hk;subst hk;rw[hg] at hb;injection hb with hb
    injection hb with _ hb _
    subst hb;rcases ht with ht|ht<;>cases ht
 exact⟨key _ (.inl rfl),key _ (.inr rfl)⟩
section
variable {B:Nat}{w0 w w':World}{b g1 g2 n:Nat}{D D':Dsk}{fp fp':Nat→Prop}{A K:List (List (List UInt8))}
end
end
section
open Go.RowKit Go.Maps
open Wal
def J5(w:World)(v:Value)(l:List (List UInt8)):Prop:=
 ∃ a cap,v=.slice a l.length cap∧∀ i (h:i < l.length),∃ g o,a=some ⟨g,o,none⟩∧AA w g 9∧w.cell? ⟨g,o+i,none⟩=some (.string (bs l[i]))
theorem J5.upd{F:Nat→Prop}{w w':World}{v:Value}{l:List (List UInt8)}(h:J5 w v l)(hu:A7 F w w')(hF:∀ k,AA w k 9→¬ F k):J5 w' v l:=by
 obtain⟨a,cap,e,h⟩:=h;refine⟨a,cap,e,fun i hi=>?_⟩;obtain⟨g,o,e1,e2,e3⟩:=h i hi;exact⟨g,o,e1,e2.upd hu (hF g e2),(hu.cell (p:=⟨g,o+i,none⟩) e2.lt (hF g e2)).trans e3⟩
theorem J5.texts{w:World}{v:Value}{l:List (List UInt8)}(h:J5 w v l):∃ a cap,v=.slice a l.length cap∧Cg w a l:=by
 obtain⟨a,cap,e,h⟩:=h;refine⟨a,cap,e,fun i hi=>?_⟩;obtain⟨g,o,e1,_,e3⟩:=h i hi;exact⟨⟨g,o,none⟩,e1,by rw[WC];exact e3⟩
theorem J5.CG{w:World}{base:Nat}{v:Value}{l:List (List UInt8)}(h:w.ownsRow base 9 1 v l.length (strCells l)):J5 w v l:=by
 rcases h.2 with⟨e1,e2⟩|⟨g,cap,cur,e1,_,hg,_⟩
 ·exact⟨none,0,by rw[e1,e2],fun i hi=>by omega⟩
 ·subst e1;refine⟨_,cap,rfl,fun i hi=>⟨g,0,rfl,⟨_,_,hg⟩,?_⟩⟩;have:=h.cells (g:=g) rfl i _ (XL l i hi);rw[add_plain] at this;rw[GJ];exact this
def JK(w:World)(v:Value)(L:List (List (List UInt8))):Prop:=
 ∃ cs:List Value,w.ownsRow 0 27 1 v L.length cs∧cs.length=L.length∧(∀ u∈cs,u.oneCell'=true)∧∀ i (h:i < L.length) (h':i < cs.length),J5 w cs[i] L[i]
theorem JK.upd{F:Nat→Prop}{w w':World}{v:Value}{L:List (List (List UInt8))}(h:JK w v L)(hu:A7 F w w')(hF:∀ k,AA w k 9→¬ F k)(hG:∀ g,v.ownBlock=some g→¬ F g):JK w' v L:=by
 obtain⟨cs,h1,h2,h3,h4⟩:=h;exact⟨cs,Bh h1 hu hG,h2,h3,fun i hi qJ=>(h4 i hi qJ).upd hu hF⟩
theorem JK.none(w:World):JK w (.slice none 0 0) []:=⟨[],EI _ _ _ _,rfl,by simp,fun i hi=>by simp at hi⟩
structure Bn where
 from_:Nat
 n:Nat
 gen:Nat
 used:Nat
 groups:List (List (List UInt8))
 fault:Int
def anQ(L:Bn)(b:Nat)(gv:Value):Array Value:=#[.int .u64 (L.gen:Int),.int .i64 (L.used:Int),.pointer (some ⟨b,0,none⟩),.int .i64 (L.from_:Int),.int .i64 (L.n:Int),gv,.int .i64 L.fault]
structure BZ(w:World)(x b:Nat)(gv:Value)(L:Bn):Prop where
 struct:w.heap[x]?=some (.cells (anQ L b gv) 207)
 groups:JK w gv L.groups
 gen:L.gen < 18446744073709551616
 used:L.used+1≤L.n
 n:L.from_+L.n≤16384
def BD(x:Nat)(gv:Value)(k:Nat):Prop:=k=x∨gv.ownBlock=some k
theorem BZ.cells{w:World}{x b:Nat}{gv:Value}{L:Bn}(h:BZ w x b gv L):
  w.cell? ⟨x,0,none⟩=some (.int .u64 (L.gen:Int))∧w.cell? ⟨x,1,none⟩=some (.int .i64 (L.used:Int))∧w.cell? ⟨x,2,none⟩=some (.pointer (some ⟨b,0,none⟩))∧w.cell? ⟨x,3,none⟩=some (.int .i64 (L.from_:Int))∧
  w.cell? ⟨x,4,none⟩=some (.int .i64 (L.n:Int))∧w.cell? ⟨x,5,none⟩=some gv∧w.cell? ⟨x,6,none⟩=some (.int .i64 L.fault)∧∀ j,w.frozen? ⟨x,j,none⟩=false:=by
 refine⟨?_,?_,?_,?_,?_,?_,?_,fun j=>CJ w x j _ _ h.struct⟩<;>rw[BA w x _ _ _ _ h.struct]<;>rfl
theorem BZ.lt{w:World}{x b:Nat}{gv:Value}{L:Bn}(h:BZ w x b gv L):∀ k,BD x gv k→k < w.heap.size:=by
 rintro k (rfl|hk)
 ·exact Ai h.struct
 ·obtain⟨cs,h1,_⟩:=h.groups;exact ZB h1 hk
theorem BZ.ne{w:World}{x b:Nat}{gv:Value}{L:Bn}(h:BZ w x b gv L):gv.ownBlock≠some x:=fun e=>by
 obtain⟨cs,h1,_⟩:=h.groups;exact AA.ne (BQ h1 e) ⟨_,_,h.struct⟩ (by decide) rfl
theorem BZ.upd{F:Nat→Prop}{w w':World}{x b:Nat}{gv:Value}{L:Bn}(h:BZ w x b gv L)(hu:A7 F w w')(hF:∀ k,AA w k 9→¬ F k)(hG:∀ k,BD x gv k→¬ F k):BZ w' x b gv L:=
 ⟨(hu.block x (Ai h.struct) (hG x (.inl rfl))).trans h.struct,h.groups.upd hu hF (fun g hg=>hG g (.inr hg)),h.gen,h.used,h.n⟩
theorem BZ.below{w w':World}{x b:Nat}{gv:Value}{L:Bn}(h:BZ w x b gv L)(hb:Bw w w'):BZ w' x b gv L:=h.upd (ub hb) (fun _ _ f=>f) (fun _ _ f=>f)
theorem Bl.avI{w:World}{b:Nat}{D:Dsk}{fp:Nat→Prop}(h:Bl w b D fp)(k:Nat)(hk:fp k):¬ AA w k 207:=by
 obtain⟨m,lv,hI,rfl⟩:=h;rintro⟨cs,fr,hb⟩;rcases hk with rfl|rfl|hk
 ·rw[hI.struct] at hb;injection hb with hb
  injection hb with _ hb _
  cases hb
 ·obtain⟨kv,⟨_,D',⟨es,clock,hm,_⟩,_⟩,_⟩:=hI.base;rw[hm] at hb;injection hb with hb
  cases hb
 ·rcases hI.loose.2 with⟨e1,_⟩|⟨g,cap,cur,e1,_,hg,_⟩
  ·subst e1;simp[Value.ownBlock] at hk
  ·subst e1;simp[Value.ownBlock] at hk;subst hk;rw[hg] at hb;injection hb with hb
   injection hb with _ hb _
   cases hb
theorem BZ.disk{w w':World}{x b b':Nat}{gv:Value}{L:Bn}{D:Dsk}{fp:Nat→Prop}(h:BZ w x b gv L)(hd:Bl w b' D fp)(hu:A7 fp w w'):BZ w' x b gv L:=
 h.upd hu (fun k hk hf=>(hd.kinds k hf).1 hk) (fun k hk hf=>by
  rcases hk with rfl|hk
  ·exact hd.avI k hf ⟨_,_,h.struct⟩
  ·obtain⟨cs,h1,_⟩:=h.groups;exact(hd.kinds k hf).2 (BQ h1 hk))
theorem J5.one{w:World}{v:Value}{l:List (List UInt8)}(h:J5 w v l):v.oneCell'=true:=by
 obtain⟨a,cap,rfl,_⟩:=h;rfl
theorem BZ.pushed{w w1 w2:World}{x b:Nat}{gv lv v':Value}{L:Bn}{l:List (List UInt8)}{cs:List Value}(h:BZ w x b gv L)(hl:J5 w lv l)
  (BH:cs.length=L.groups.length)(Gw:∀ u∈cs,u.oneCell'=true)(TY:∀ i (h:i < L.groups.length) (h':i < cs.length),J5 w cs[i] L.groups[i])
  (hb:Bw w w1)(Az:w1.grownBy w2 gv.ownBlock)(hown:w2.ownsRow 0 27 1 v' (L.groups.length+1) (cs++[lv]))(hat:v'.ownBlock=gv.ownBlock∨v'.ownBlock=some w1.heap.size):
  BZ (w2.setCell ⟨x,5,none⟩ v') x b v' { L with groups:=L.groups++[l] }∧A7 (BD x gv) w (w2.setCell ⟨x,5,none⟩ v')∧D6 (BD x gv) (BD x v') w:=by
 have hx:=Ai h.struct;have hsz:=hb.size;have u1:A7 (fun k=>gv.ownBlock=some k) w w2:=(A7.of_below hb).trans (A7.of_grownBy (F:=fun k=>gv.ownBlock=some k) Az (fun k e=>e)) (fun k hk=>.inl hk);have Kl:w2.heap[x]?=some (.cells (anQ L b gv) 207):=(u1.block x hx (fun e=>h.ne e)).trans h.struct;have QZ:∀ k,AA w k 9→¬ gv.ownBlock=some k:=fun k hk e=>by
  obtain⟨cs',h1,_⟩:=h.groups;exact AA.ne hk (BQ h1 e) (by decide) rfl
 have Jd:v'.ownBlock≠some x:=fun e=>by
  rcases hat with hat|hat
  ·exact h.ne (by rw[←hat,e])
  ·rw[e] at hat;have:=G7 hat;omega
 have c1:A7 (fun k=>k=x) w2 (w2.setCell ⟨x,5,none⟩ v'):=(A7.refl (fun k=>k=x) w2).setCell (p:=⟨x,5,none⟩) (.inl rfl) _;have keep:∀ v l,J5 w v l→J5 (w2.setCell ⟨x,5,none⟩ v') v l:=fun v l hr=>(hr.upd u1 QZ).upd c1 (fun k hk e=>by subst e;exact AA.ne hk ⟨_,_,Kl⟩ (by decide) rfl)
 refine⟨⟨BU w2 x 5 _ _ v' Kl,⟨cs++[lv],?_,by simp[BH],?_,fun i hi qJ=>?_⟩,h.gen,h.used,h.n⟩,?_,?_⟩
 ·show World.ownsRow _ 0 _ 1 v' (L.groups++[l]).length _
  rw[Au];exact Bh hown c1 (fun g hg e=>Jd (by rw[hg,e]))
 ·intro u hu;rcases Fp.1 hu with hu|hu
  ·exact Gw u hu
  ·rw[EX] at hu;subst hu;exact hl.one
 ·by_cases hlt:i < L.groups.length
  ·show J5 _ _ (L.groups++[l])[i]
   rw[Rp (by omega),Rp hlt];exact keep _ _ (TY i hlt (by omega))
  ·have Ja:i < (L.groups++[l]).length:=hi;rw[Au,Kq] at Ja;have e:i=L.groups.length:=by omega
   show J5 _ _ (L.groups++[l])[i]
   rw[Ux (by omega),Ux (by omega)];simp only[List.getElem_singleton];exact keep _ _ hl
 ·exact(u1.mono (fun k e=>.inr e)).setCell (p:=⟨x,5,none⟩) (.inl (.inl rfl)) _
 ·rintro k (rfl|hk)
  ·exact .inl (.inl rfl)
  ·rcases hat with hat|hat
   ·exact .inl (.inr (by rw[←hat];exact hk))
   ·rw[hat] at hk;have:=G7 hk;exact .inr (by omega)
end
end Go.Proofs.YtmbbhdebddbhoaaGreat
