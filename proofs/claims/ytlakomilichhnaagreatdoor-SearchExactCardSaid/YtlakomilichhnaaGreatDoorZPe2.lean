/- Texts of this seat's, what the claim needs of them. -/
import Derived.Test.YtlakomilichhnaaGreatDoorZPb
import Derived.Test.YtlakomilichhnaaGreatDoorZOw
namespace Go.Proofs.YtlakomilichhnaaGreatDoor
set_option maxHeartbeats 3200000
set_option maxRecDepth 100000
open Go.RowKit
open Go renaming Calls→Ac,World→A9,bodyPost_ret→DF,heap_alloc_new→Ar
open IntWalk renaming i64_in→Bj
open Lib renaming hid→J
open List renaming eq_nil_of_length_eq_zero→Aw,length→Cd,length_tail→Ej,suffix_cons_iff→NZ,suffix_refl→Ek
open Nat renaming le_refl→An
open Option renaming none→A4,some→A2
open Proofs.Tryz renaming prog→A3
open Qr renaming Fr→Co,PS→CZ,Res→El,Tok→D7,begins→I5,blk_set1→Lk,far6→Ik,lk→Hi,pOr→Hk,pPrim→IZ,tail_eats→FP,tokens→Bm,wordsB→Cn,zeroQ→Ce
open Qr.Fr renaming put6→Hj,refl→EN
open Qr.Kp renaming below→Fg,put6→GX,refl→Jf
open Qr.PS renaming of→LE
open Tx renaming blk→Aq,blk_far→Da,blk_later→Aj,newb→Aa,words→Bh
open World renaming setCell→CO,size_alloc→Bn
section
attribute [local go_sem] Qr.run_tok0 Qr.run_tok1 Qr.run_tok2
theorem term_al (g:Nat) (l r:List D7) (w:A9) (hP:CZ g l r w) (kk nk:UInt8) (tt nt:List UInt8) (tg ng:Bool) (K N:Int) (ht:Hi r=⟨kk,tt,tg⟩) (hK:(kk.toNat:Int)=K) (hn:Qr.lk1 r=⟨nk,nt,ng⟩) (hN:(nk.toNat:Int)=N) (hk0:kk≠0) (hK4:K=114) (hp:(N == 58)=false) (hp2:(N == 42)=false) (h1:(Cn tt).length=1) (hx:Cn tt≠[]) :
  Ac A3 303 #[.pointer (A2 ⟨g,0,A4⟩)] w fun e w'=>El g l (A2 (.mk (if K=114∧(Cn tt).length=1 then 1 else 3) 0 (Cn tt) 0 0 [],r.tail)) w e w':=by
 have hk1:(Hi r).k≠0:=by rw[ht];exact hk0
 have htok:=hP.tok hk1
 rw[ht]at htok
 simp only at htok
 have hsz:(⟨tt.toArray⟩:ByteArray).size≤1000000000:=by rw[Tx.size_mk];omega
 have hte:=FP hk1
 have hsl:=hP.suf.length_le
 have hll:=hP.len
 have L0:=fun w h=>look0 (K:=K) (w:=w) (g:=g) (l:=l) ht hK h
 have L1:=fun w h=>look1 (K:=N) (w:=w) (g:=g) (l:=l) hn hN h
 have L2:=fun w h=>look0 (r:=r.tail) (K:=N) (w:=w) (g:=g) (l:=l) hn hN h
 obtain⟨ta,tc,kg,_,_⟩:=hP.blk
 obtain⟨A,hA⟩:∃ A,l.length - r.length=A:=⟨_,rfl⟩
 rw[hA]at kg
 have hA1:(A:Int)+1=((l.length - r.tail.length:Nat):Int):=by have:=hte.2;rw[Ej]at this ⊢;omega
 have hw1:=Bj ((A:Int)+1) ⟨by omega,by omega⟩
 have hw2:=Bj ((A:Int)+1+1) ⟨by omega,by omega⟩
 have hgl:=hP.lt
 have hP0:=hP.below (Aa w (.cells Ce 29))
 obtain⟨xs0,hxs0⟩:∃ xs0,Cn tt=xs0:=⟨_,rfl⟩
 have HXS:=J hxs0;clear hxs0
 have KG:=J kg;clear kg
 have HA1:=J hA1;clear hA1
 have HV:=J htok.1;clear htok
 have HTE:=J hte;clear hte
 have HPP:=J hP;clear hP
 clear ht hn hK hN hk0 hA hk1
 have hx0:xs0≠[]:=by rw[← HXS.out];exact hx
 rw[HXS.out]at h1
 rw[HXS.out]
 clear hx
 have hxn:((xs0.length:Int) == 0)=false:=beq_eq_false_iff_ne.2 (fun h=>hx0 (Aw (by omega)))
 have hxn2:¬ ((xs0.length:Int)=0):=fun h=>hx0 (Aw (by omega))
 clear hx0
 obtain⟨OP,hOP⟩:∃ OP:Int,(if K=114∧xs0.length=1 then 1 else 3)=OP:=⟨_,rfl⟩
 rw[hOP]
 have HOP:=J hOP;clear hOP
 subst hK4
 have hO:OP=1:=by rw[← HOP.out,if_pos ⟨rfl,h1⟩]
 subst hO;clear HOP
 have h1i:((xs0.length:Int) == 1)=true:=by rw[h1];rfl
 have H1:=J h1;clear h1
 go_enter Tryz.func303,Tryz.ntmps303
 go_wp2_with (first
  |(go_at_call 252;refine (L2 _ hPS4).mono ?_;rintro e w5 ⟨rfl,hb5⟩;have s5:=hb5.size;have kT5:(w5.alloc (.cells #[.int .u8 N,.string ⟨nt.toArray⟩,.bool ng] 205)).heap[w1.heap.size]?=A2 (.cells #[.int .u8 114,.string ⟨tt.toArray⟩,.bool tg] 205 (0,0)):=Aj (Aj KT4.out hb5) (Aa _ _);have kR5:(w5.alloc (.cells #[.int .u8 N,.string ⟨nt.toArray⟩,.bool ng] 205)).heap[w.heap.size]?=A2 (.cells Ce 29 (0,0)):=Aj (Aj KR4.out hb5) (Aa _ _);have kg5:(w5.alloc (.cells #[.int .u8 N,.string ⟨nt.toArray⟩,.bool ng] 205)).heap[g]?=A2 (.cells #[.slice ta l.length tc,.int .i64 ((A:Int)+1)] 129 (0,0)):=Aj (Aj KG4.out hb5) (Aa _ _);have hF5:Co g w (w5.alloc (.cells #[.int .u8 N,.string ⟨nt.toArray⟩,.bool ng] 205)):=(hF4.trans (.of_below hb5)).alloc _;have e50:(w5.alloc (.cells #[.int .u8 N,.string ⟨nt.toArray⟩,.bool ng] 205)).cell? ⟨w1.heap.size,0,A4⟩=A2 (.int .u8 114):=(Aq kT5).1 0;obtain⟨kc5,kf5,kl5⟩:=Aq kR5;have z0:(w5.alloc (.cells #[.int .u8 N,.string ⟨nt.toArray⟩,.bool ng] 205)).cell? ⟨w.heap.size,0,A4⟩=A2 (.int .i64 0):=kc5 0;have z1:(w5.alloc (.cells #[.int .u8 N,.string ⟨nt.toArray⟩,.bool ng] 205)).cell? ⟨w.heap.size,1,A4⟩=A2 (.int .i64 0):=kc5 1;have z2:(w5.alloc (.cells #[.int .u8 N,.string ⟨nt.toArray⟩,.bool ng] 205)).cell? ⟨w.heap.size,2,A4⟩=A2 (.slice A4 0 0):=kc5 2;have z3:(w5.alloc (.cells #[.int .u8 N,.string ⟨nt.toArray⟩,.bool ng] 205)).cell? ⟨w.heap.size,3,A4⟩=A2 (.int .i64 0):=kc5 3;have z4:(w5.alloc (.cells #[.int .u8 N,.string ⟨nt.toArray⟩,.bool ng] 205)).cell? ⟨w.heap.size,4,A4⟩=A2 (.int .i64 0):=kc5 4;have z5:(w5.alloc (.cells #[.int .u8 N,.string ⟨nt.toArray⟩,.bool ng] 205)).cell? ⟨w.heap.size,5,A4⟩=A2 (.slice A4 0 0):=kc5 5;have eg5:(w5.alloc (.cells #[.int .u8 N,.string ⟨nt.toArray⟩,.bool ng] 205)).cell? ⟨g,1,A4⟩=A2 (.int .i64 ((A:Int)+1)):=(Aq kg5).1 1;have fg5:∀ i,(w5.alloc (.cells #[.int .u8 N,.string ⟨nt.toArray⟩,.bool ng] 205)).frozen? ⟨g,i,A4⟩=false:=(Aq kg5).2.1;have KG5:=J kg5;have KR5:=J kR5;clear kT5 kg5 kR5 kc5)
  |(go_at_call 208;refine (text_Words_c ⟨tt.toArray⟩ ((w2.alloc (.cells #[.int .u8 N,.string ⟨nt.toArray⟩,.bool ng] 205)).setCell ⟨g,1,A4⟩ (.int .i64 ((A:Int)+1))) hPS3.gp.g hsz HV.out).mono ?_;rintro e w4 ⟨A',xs,rfl,hws,hSLA,hA',hb4⟩;obtain rfl:xs=xs0:=(by rw[← HXS.out];exact Qr.wordsB_bys hws);clear hws;have s4:=hb4.size;have hPS4:=hPS3.below hb4;have KG4:=J (Aj KG3.out hb4);have KT4:=J (Aj KT3.out hb4);have KR4:=J (Aj KR3.out hb4);have hF4:=hF3.trans (.of_below hb4);clear eg fg e30 e31)
  |(go_at_call 252;refine (L1 _ (hP1.below (Aa _ _))).mono ?_;rintro e w2 ⟨rfl,hb2⟩;have s1:w.heap.size<w1.heap.size:=(by have:=hb1.size;simp at this;omega);have s2:w1.heap.size<w2.heap.size:=(by have:=hb2.size;simp at this;omega);have kT2:(w2.alloc (.cells #[.int .u8 N,.string ⟨nt.toArray⟩,.bool ng] 205)).heap[w1.heap.size]?=A2 (.cells #[.int .u8 114,.string ⟨tt.toArray⟩,.bool tg] 205 (0,0)):=Aj (Aj (Ar w1 (.cells #[.int .u8 114,.string ⟨tt.toArray⟩,.bool tg] 205)) hb2) (Aa w2 _);have kg2:(w2.alloc (.cells #[.int .u8 N,.string ⟨nt.toArray⟩,.bool ng] 205)).heap[g]?=A2 (.cells #[.slice ta l.length tc,.int .i64 (A:Int)] 129 (0,0)):=Aj (Aj (Aj (Aj (Aj KG.out (Aa _ _)) hb1) (Aa _ _)) hb2) (Aa w2 _);have kR2:(w2.alloc (.cells #[.int .u8 N,.string ⟨nt.toArray⟩,.bool ng] 205)).heap[w.heap.size]?=A2 (.cells Ce 29 (0,0)):=Aj (Aj (Aj (Aj (Ar w _) hb1) (Aa _ _)) hb2) (Aa w2 _);have hF2:Co g w (w2.alloc (.cells #[.int .u8 N,.string ⟨nt.toArray⟩,.bool ng] 205)):=(((((EN g w).alloc _).trans (.of_below hb1)).alloc _).trans (.of_below hb2)).alloc _;have e30:(w2.alloc (.cells #[.int .u8 N,.string ⟨nt.toArray⟩,.bool ng] 205)).cell? ⟨w1.heap.size,0,A4⟩=A2 (.int .u8 114):=(Aq kT2).1 0;have e31:∀ v,((w2.alloc (.cells #[.int .u8 N,.string ⟨nt.toArray⟩,.bool ng] 205)).setCell ⟨g,1,A4⟩ v).cell? ⟨w1.heap.size,1,A4⟩=A2 (.string ⟨tt.toArray⟩):=(fun v=>(Aq (Da kT2 (show w1.heap.size≠g by omega) v)).1 1);have eg:(w2.alloc (.cells #[.int .u8 N,.string ⟨nt.toArray⟩,.bool ng] 205)).cell? ⟨g,1,A4⟩=A2 (.int .i64 (A:Int)):=(Aq kg2).1 1;have fg:∀ i,(w2.alloc (.cells #[.int .u8 N,.string ⟨nt.toArray⟩,.bool ng] 205)).frozen? ⟨g,i,A4⟩=false:=(Aq kg2).2.1;have kg3:((w2.alloc (.cells #[.int .u8 N,.string ⟨nt.toArray⟩,.bool ng] 205)).setCell ⟨g,1,A4⟩ (.int .i64 ((A:Int)+1))).heap[g]?=A2 (.cells #[.slice ta l.length tc,.int .i64 ((A:Int)+1)] 129 (0,0)):=Lk kg2 _;have hF3:Co g w ((w2.alloc (.cells #[.int .u8 N,.string ⟨nt.toArray⟩,.bool ng] 205)).setCell ⟨g,1,A4⟩ (.int .i64 ((A:Int)+1))):=hF2.set rfl _;have hPS3:CZ g l r.tail ((w2.alloc (.cells #[.int .u8 N,.string ⟨nt.toArray⟩,.bool ng] 205)).setCell ⟨g,1,A4⟩ (.int .i64 ((A:Int)+1))):=LE HPP.out KG.out hF3 HTE.out.1 kg3 HA1.out;have kT3:=Da (a:=⟨g,1,A4⟩) kT2 (show w1.heap.size≠g by omega) (.int .i64 ((A:Int)+1));have kR3:=Da (a:=⟨g,1,A4⟩) kR2 (show w.heap.size≠g by omega) (.int .i64 ((A:Int)+1));have KG3:=J kg3;have KT3:=J kT3;have KR3:=J kR3;clear kg2 kT2 kR2 kg3 kT3 kR3)
  |(go_at_call 252;refine (L0 _ hP0).mono ?_;rintro e w1 ⟨rfl,hb1⟩;have hP1:=hP0.below hb1))
 refine DF (v:=.agg #[.int .i64 1,.int .i64 0,.slice (A2 ⟨A',0,A4⟩) xs.length xs.length,.int .i64 0,.int .i64 0,.slice A4 0 0]) (by simp[results,Tryz.results303,go_sem,z0,z1,z2,z3,z4,z5]) rfl ⟨⟨1,0,A2 ⟨A',0,A4⟩,xs.length,xs.length,0,0,A4,0,0⟩,rfl,Qr.QC.of_kids (ks:=[]) (Qr.Kp.sl hSLA (by have:=hA';simp[CO]at this;omega) (GX (M:=w.heap.size+1) ((Fg hb5).trans (Fg (Aa w5 _))) (by omega) _ _ _ _ _ _)) (fun _ ad l2 c2 e9=>by injection e9 with e9;injection e9 with e9;rw[← e9];have:=hA';simp[CO]at this;simp only;omega) (Qr.KA.nil _ _),LE HPP.out KG.out (Hj hF5 (An _) _ _ _ _ _ _) HTE.out.1 (Ik KG5.out (show g≠w.heap.size by omega) _ _ _ _ _ _) HA1.out,(Hj hF5 (An _) _ _ _ _ _ _)⟩
theorem years_al (g:Nat) (l r:List D7) (w:A9) (hP:CZ g l r w) (kk nk:UInt8) (tt nt:List UInt8) (tg ng:Bool) (K N:Int) (ht:Hi r=⟨kk,tt,tg⟩) (hK:(kk.toNat:Int)=K) (hn:Qr.lk1 r=⟨nk,nt,ng⟩) (hN:(nk.toNat:Int)=N) (hk0:kk≠0) (hp:(N == 58)=false) (x y:List UInt8) (hcut:Lib.cut tt [45]=(x,y,true)) (hxs:x.length≤1000) (hys:y.length≤1000) (hK4:K=114) (m:Nat) (h1:Qr.yearN x=A2 m) (n:Nat) (h2:Qr.yearN y=A2 n) :
  Ac A3 301 #[.pointer (A2 ⟨g,0,A4⟩)] w fun e w'=>El g l (A2 (.mk 4 0 [] m n [],r.tail)) w e w':=by
 have hk1:(Hi r).k≠0:=by rw[ht];exact hk0
 have htok:=hP.tok hk1
 rw[ht]at htok
 simp only at htok
 have hsz:tt.length≤1000:=by omega
 have hte:=FP hk1
 have hsl:=hP.suf.length_le
 have hll:=hP.len
 have L0:=fun w h=>look0 (K:=K) (w:=w) (g:=g) (l:=l) ht hK h
 have L1:=fun w h=>look1 (K:=N) (w:=w) (g:=g) (l:=l) hn hN h
 obtain⟨ta,tc,kg,_,_⟩:=hP.blk
 obtain⟨A,hA⟩:∃ A,l.length - r.length=A:=⟨_,rfl⟩
 rw[hA]at kg
 have HAA:=J (show (A:Int)=((l.length - r.length:Nat):Int) by omega)
 have hA1:(A:Int)+1=((l.length - r.tail.length:Nat):Int):=by have:=hte.2;rw[Ej]at this ⊢;omega
 have hw1:=Bj ((A:Int)+1) ⟨by omega,by omega⟩
 have hgl:=hP.lt
 have hP0:=hP.below (Aa w (.cells Ce 29))
 have KG:=J kg;clear kg
 have HA1:=J hA1;clear hA1
 have HV:=J htok.1;clear htok
 have HTE:=J hte;clear hte
 have HPP:=J hP;clear hP
 clear ht hn hK hN hk0 hA hk1
 have CUT:=fun w h=>cut_c tt x y true w h hsz hcut
 have Y1:=fun w h=>year_some h1 hxs w h
 have Y2:=fun w h=>year_some h2 hys w h
 clear hcut h1 h2 hxs hys
 subst hK4
 go_enter Tryz.func301,Tryz.ntmps301
 go_wp2_with (first
  |(go_at_call 308;refine (Y2 _ hG5).mono ?_;rintro e w6 ⟨rfl,hb6⟩;have s6:=hb6.size;have kg6:=Aj KG5.out hb6;have kR6:=Aj KR5.out hb6;have hF6:=hF5.trans (.of_below hb6);obtain⟨kc6,kf6,kl6⟩:=Aq kR6;have z0:w6.cell? ⟨w.heap.size,0,A4⟩=A2 (.int .i64 0):=kc6 0;have z1:w6.cell? ⟨w.heap.size,1,A4⟩=A2 (.int .i64 0):=kc6 1;have z2:w6.cell? ⟨w.heap.size,2,A4⟩=A2 (.slice A4 0 0):=kc6 2;have z3:w6.cell? ⟨w.heap.size,3,A4⟩=A2 (.int .i64 0):=kc6 3;have z4:w6.cell? ⟨w.heap.size,4,A4⟩=A2 (.int .i64 0):=kc6 4;have z5:w6.cell? ⟨w.heap.size,5,A4⟩=A2 (.slice A4 0 0):=kc6 5;have KG6:=J kg6;have KR6:=J kR6;clear kg6 kR6 kc6)
  |(go_at_call 308;refine (Y1 _ hPS4.gp.g).mono ?_;rintro e w5 ⟨rfl,hb5⟩;have s5:=hb5.size;have KG5:=J (Aj KG4.out hb5);have KR5:=J (Aj KR4.out hb5);have hF5:=hF4.trans (.of_below hb5);have hG5:=(hPS4.below hb5).gp.g)
  |(go_at_call 93;refine (CUT _ hPS2.gp.g).mono ?_;rintro e w3 ⟨rfl,hb3⟩;have s3:=hb3.size;have kT3:=Aj KT2.out hb3;have kg3:=Aj KG2.out hb3;have kR3:=Aj KR2.out hb3;have hF3:=hF2.trans (.of_below hb3);have e50:w3.cell? ⟨w1.heap.size,0,A4⟩=A2 (.int .u8 114):=(Aq kT3).1 0;have eg:w3.cell? ⟨g,1,A4⟩=A2 (.int .i64 (A:Int)):=(Aq kg3).1 1;have fg:∀ i,w3.frozen? ⟨g,i,A4⟩=false:=(Aq kg3).2.1;have kg4:(w3.setCell ⟨g,1,A4⟩ (.int .i64 ((A:Int)+1))).heap[g]?=A2 (.cells #[.slice ta l.length tc,.int .i64 ((A:Int)+1)] 129 (0,0)):=Lk kg3 _;have hF4:Co g w (w3.setCell ⟨g,1,A4⟩ (.int .i64 ((A:Int)+1))):=hF3.set rfl _;have hPS4:CZ g l r.tail (w3.setCell ⟨g,1,A4⟩ (.int .i64 ((A:Int)+1))):=LE HPP.out KG.out hF4 HTE.out.1 kg4 HA1.out;have kR4:=Da (a:=⟨g,1,A4⟩) kR3 (show w.heap.size≠g by omega) (.int .i64 ((A:Int)+1));have KG4:=J kg4;have KR4:=J kR4;clear kT3 kg3 kR3 kg4 kR4 e30 e31)
  |(go_at_call 252;refine (L1 _ (hP1.below (Aa _ _))).mono ?_;rintro e w2 ⟨rfl,hb2⟩;have s1:w.heap.size<w1.heap.size:=(by have:=hb1.size;simp at this;omega);have s2:w1.heap.size<w2.heap.size:=(by have:=hb2.size;simp at this;omega);have kT2:(w2.alloc (.cells #[.int .u8 N,.string ⟨nt.toArray⟩,.bool ng] 205)).heap[w1.heap.size]?=A2 (.cells #[.int .u8 114,.string ⟨tt.toArray⟩,.bool tg] 205 (0,0)):=Aj (Aj (Ar w1 (.cells #[.int .u8 114,.string ⟨tt.toArray⟩,.bool tg] 205)) hb2) (Aa w2 _);have kg2:(w2.alloc (.cells #[.int .u8 N,.string ⟨nt.toArray⟩,.bool ng] 205)).heap[g]?=A2 (.cells #[.slice ta l.length tc,.int .i64 (A:Int)] 129 (0,0)):=Aj (Aj (Aj (Aj (Aj KG.out (Aa _ _)) hb1) (Aa _ _)) hb2) (Aa w2 _);have kR2:(w2.alloc (.cells #[.int .u8 N,.string ⟨nt.toArray⟩,.bool ng] 205)).heap[w.heap.size]?=A2 (.cells Ce 29 (0,0)):=Aj (Aj (Aj (Aj (Ar w _) hb1) (Aa _ _)) hb2) (Aa w2 _);have hF2:Co g w (w2.alloc (.cells #[.int .u8 N,.string ⟨nt.toArray⟩,.bool ng] 205)):=(((((EN g w).alloc _).trans (.of_below hb1)).alloc _).trans (.of_below hb2)).alloc _;have e30:(w2.alloc (.cells #[.int .u8 N,.string ⟨nt.toArray⟩,.bool ng] 205)).cell? ⟨w1.heap.size,0,A4⟩=A2 (.int .u8 114):=(Aq kT2).1 0;have e31:(w2.alloc (.cells #[.int .u8 N,.string ⟨nt.toArray⟩,.bool ng] 205)).cell? ⟨w1.heap.size,1,A4⟩=A2 (.string ⟨tt.toArray⟩):=(Aq kT2).1 1;have hPS2:=LE HPP.out KG.out hF2 (Ek _) kg2 HAA.out;have KG2:=J kg2;have KT2:=J kT2;have KR2:=J kR2;clear kg2 kT2 kR2)
  |(go_at_call 252;refine (L0 _ hP0).mono ?_;rintro e w1 ⟨rfl,hb1⟩;have hP1:=hP0.below hb1))
 refine DF (v:=.agg #[.int .i64 4,.int .i64 0,.slice A4 0 0,.int .i64 m,.int .i64 n,.slice A4 0 0]) (by simp[results,Tryz.results301,go_sem,z0,z1,z2,z3,z4,z5]) rfl ⟨⟨4,0,A4,0,0,m,n,A4,0,0⟩,rfl,Qr.QC.of_kids (ws:=[]) (ks:=[]) (.inl ⟨rfl,_,_,rfl⟩) (fun h=>absurd rfl h) (Qr.KA.nil _ _),LE HPP.out KG.out (Hj hF6 (An _) _ _ _ _ _ _) HTE.out.1 (Ik KG6.out (show g≠w.heap.size by omega) _ _ _ _ _ _) HA1.out,(Hj hF6 (An _) _ _ _ _ _ _)⟩
theorem prim_dir_al (g:Nat) (l r:List D7) (w:A9) (hP:CZ g l r w) (kk:UInt8) (tt:List UInt8) (tg:Bool) (K:Int) (ht:Hi r=⟨kk,tt,tg⟩) (hK:(kk.toNat:Int)=K) (hb:I5 r=true) (nk:UInt8) (nt:List UInt8) (ng:Bool) (N:Int) (hn:Qr.lk1 r=⟨nk,nt,ng⟩) (hN:(nk.toNat:Int)=N) (hw:Qr.word0 r=true) (h40:¬ K=40) (hK4:K=114) (hp:(N == 58)=false) (hTm:∀ w,CZ g l r w→Ac A3 303 #[.pointer (A2 ⟨g,0,A4⟩)] w (El g l (Qr.pTerm true 0 r) w)) (q:Qr.Qy) (r':List D7) (hx:Qr.pTerm true 0 r=A2 (q,r')) :
  Ac A3 287 #[.pointer (A2 ⟨g,0,A4⟩)] w fun e w'=>El g l (A2 (q,r')) w e w':=by
 have HTM:=J hTm;clear hTm
 have hsl:=hP.suf.length_le
 have hll:=hP.len
 have hgl:=hP.lt
 obtain⟨ta,tc,kg,_,_⟩:=hP.blk
 obtain⟨A,hA⟩:∃ A,l.length - r.length=A:=⟨_,rfl⟩
 rw[hA]at kg
 have hP0:=hP.below (Aa w (.cells Ce 29))
 have KG:=J kg;clear kg
 have HPP:=J hP;clear hP
 have hk1:=Qr.begins_ne hb
 have hte:=FP hk1
 have L0:=fun w h=>look0 (K:=K) (w:=w) (g:=g) (l:=l) ht hK h
 have HB:=J hb;clear hb
 have HTE:=J hte;clear hk1
 have hA1:(A:Int)+1=((l.length - r.tail.length:Nat):Int):=by have:=hte.2;rw[Ej]at this ⊢;omega
 have hw1:=Bj ((A:Int)+1) ⟨by omega,by omega⟩
 have HA1:=J hA1;clear hA1 hte ht hK
 have L1:=fun w h=>look1 (K:=N) (w:=w) (g:=g) (l:=l) hn hN h
 clear hN hn
 have n40:(K == 40)=false:=beq_eq_false_iff_ne.2 h40
 have HW:=J hw;clear hw
 have HX:=J hx;clear hx
 subst hK4
 clear n40 h40
 go_enter Tryz.func287,Tryz.ntmps287
 go_wp2_with (first
  |(go_at_call 303;refine (HTM.out _ hP3).mono ?_;rintro e w4 h4;rw[HX.out]at h4;obtain⟨qo,qf,qa,qb,qsa,qsn,qsc,qka,qkn,qkc,rfl,hq4,hP4,hF4⟩:=h4.get;have s4:=hF4.size;simp only[Bn]at s4;have kR4:=(hF4.block w.heap.size (by omega) (by first | omega | (simp;omega))).trans KR3.out;have hF4':=hF3.trans hF4;have z0:w4.cell? ⟨w.heap.size,0,A4⟩=A2 (.int .i64 0):=(Aq kR4).1 0;have z1:w4.cell? ⟨w.heap.size,1,A4⟩=A2 (.int .i64 0):=(Aq kR4).1 1;have z2:w4.cell? ⟨w.heap.size,2,A4⟩=A2 (.slice A4 0 0):=(Aq kR4).1 2;have z3:w4.cell? ⟨w.heap.size,3,A4⟩=A2 (.int .i64 0):=(Aq kR4).1 3;have z4:w4.cell? ⟨w.heap.size,4,A4⟩=A2 (.int .i64 0):=(Aq kR4).1 4;have z5:w4.cell? ⟨w.heap.size,5,A4⟩=A2 (.slice A4 0 0):=(Aq kR4).1 5;have fr9:∀ i,w4.frozen? ⟨w.heap.size,i,A4⟩=false:=(Aq kR4).2.1;obtain⟨ta4,tc4,kg4,_,_⟩:=hP4.blk;have KP4:=J kg4;clear kg4 kR4)
  |(go_at_call 252;refine (L1 _ hP2).mono ?_;rintro e w3 ⟨rfl,hb3⟩;have s3:=hb3.size;simp only[Bn]at s3;have kT3:(w3.alloc (.cells #[.int .u8 N,.string ⟨nt.toArray⟩,.bool ng] 205)).heap[w2.heap.size]?=A2 (.cells #[.int .u8 114,.string ⟨tt.toArray⟩,.bool tg] 205 (0,0)):=Aj (Aj KT2.out hb3) (Aa w3 _);have kg3:(w3.alloc (.cells #[.int .u8 N,.string ⟨nt.toArray⟩,.bool ng] 205)).heap[g]?=A2 (.cells #[.slice ta l.length tc,.int .i64 (A:Int)] 129 (0,0)):=Aj (Aj KG2.out hb3) (Aa w3 _);have kR3:(w3.alloc (.cells #[.int .u8 N,.string ⟨nt.toArray⟩,.bool ng] 205)).heap[w.heap.size]?=A2 (.cells Ce 29 (0,0)):=Aj (Aj KR2.out hb3) (Aa w3 _);have hF3:Co g w (w3.alloc (.cells #[.int .u8 N,.string ⟨nt.toArray⟩,.bool ng] 205)):=(hF2.trans (.of_below hb3)).alloc _;have hP3:CZ g l r (w3.alloc (.cells #[.int .u8 N,.string ⟨nt.toArray⟩,.bool ng] 205)):=(hP2.below hb3).below (Aa w3 _);have e30:(w3.alloc (.cells #[.int .u8 N,.string ⟨nt.toArray⟩,.bool ng] 205)).cell? ⟨w2.heap.size,0,A4⟩=A2 (.int .u8 114):=(Aq kT3).1 0;have eg3:(w3.alloc (.cells #[.int .u8 N,.string ⟨nt.toArray⟩,.bool ng] 205)).cell? ⟨g,1,A4⟩=A2 (.int .i64 (A:Int)):=(Aq kg3).1 1;have fg3:∀ i,(w3.alloc (.cells #[.int .u8 N,.string ⟨nt.toArray⟩,.bool ng] 205)).frozen? ⟨g,i,A4⟩=false:=(Aq kg3).2.1;have KT3:=J kT3;have KG3:=J kg3;have KR3:=J kR3;clear kT3 kg3 kR3)
  |(go_at_call 252;refine (L0 _ hP1).mono ?_;rintro e w2 ⟨rfl,hb2⟩;have s2:=hb2.size;have kT2:(w2.alloc (.cells #[.int .u8 114,.string ⟨tt.toArray⟩,.bool tg] 205)).heap[w2.heap.size]?=A2 (.cells #[.int .u8 114,.string ⟨tt.toArray⟩,.bool tg] 205 (0,0)):=Ar _ _;have kg2:(w2.alloc (.cells #[.int .u8 114,.string ⟨tt.toArray⟩,.bool tg] 205)).heap[g]?=A2 (.cells #[.slice ta l.length tc,.int .i64 (A:Int)] 129 (0,0)):=Aj (Aj KG1.out hb2) (Aa w2 _);have kR2:(w2.alloc (.cells #[.int .u8 114,.string ⟨tt.toArray⟩,.bool tg] 205)).heap[w.heap.size]?=A2 (.cells Ce 29 (0,0)):=Aj (Aj KR1.out hb2) (Aa w2 _);have hF2:Co g w (w2.alloc (.cells #[.int .u8 114,.string ⟨tt.toArray⟩,.bool tg] 205)):=(hF1.trans (.of_below hb2)).alloc _;have hP2:CZ g l r (w2.alloc (.cells #[.int .u8 114,.string ⟨tt.toArray⟩,.bool tg] 205)):=(hP1.below hb2).below (Aa w2 _);have eg:(w2.alloc (.cells #[.int .u8 114,.string ⟨tt.toArray⟩,.bool tg] 205)).cell? ⟨g,1,A4⟩=A2 (.int .i64 (A:Int)):=(Aq kg2).1 1;have fg:∀ i,(w2.alloc (.cells #[.int .u8 114,.string ⟨tt.toArray⟩,.bool tg] 205)).frozen? ⟨g,i,A4⟩=false:=(Aq kg2).2.1;have KT2:=J kT2;have KG2:=J kg2;have KR2:=J kR2;clear kT2 kg2 kR2)
  |(go_at_call 251;refine (begins_c g l r _ hP0).mono ?_;rintro e w1 ⟨rfl,hb1⟩;rw[HB.out];have hP1:=hP0.below hb1;have s1:w.heap.size<w1.heap.size:=(by have:=hb1.size;simp at this;omega);have KG1:=J (Aj (Aj KG.out (Aa w _)) hb1);have KR1:Hid (w1.heap[w.heap.size]?=A2 (.cells Ce 29 (0,0))):=J (Aj (Ar w _) hb1);have hF1:Co g w w1:=((EN g w).alloc _).trans (.of_below hb1)))
 refine DF (v:=.agg #[.int .i64 qo,.int .i64 qf,.slice qsa qsn qsc,.int .i64 qa,.int .i64 qb,.slice qka qkn qkc]) (by simp[results,Tryz.results287,go_sem,z0,z1,z2,z3,z4,z5]) rfl ⟨⟨qo,qf,qsa,qsn,qsc,qa,qb,qka,qkn,qkc⟩,rfl,(hq4.kp (GX (Jf _ _) (by simp;omega) _ _ _ _ _ _)).mono (by simp;omega),Qr.PS.of' hP4 KP4.out (Tx.put6 (Below.refl _ _) (by omega) _ _ _ _ _ _) (Ek _) (Ik KP4.out (show g≠w.heap.size by omega) _ _ _ _ _ _) rfl,Hj hF4' (An _) _ _ _ _ _ _⟩
theorem prim_year_al (g:Nat) (l r:List D7) (w:A9) (hP:CZ g l r w) (kk:UInt8) (tt:List UInt8) (tg:Bool) (K:Int) (ht:Hi r=⟨kk,tt,tg⟩) (hK:(kk.toNat:Int)=K) (hb:I5 r=true) (nk:UInt8) (nt:List UInt8) (ng:Bool) (N:Int) (hn:Qr.lk1 r=⟨nk,nt,ng⟩) (hN:(nk.toNat:Int)=N) (hK4:K=114) (hN5:N=58) (hg1:ng=true) (k2:UInt8) (t2:List UInt8) (g2:Bool) (K2:Int) (ht2:Hi r.tail.tail=⟨k2,t2,g2⟩) (hK2:(k2.toNat:Int)=K2) (hg2:g2=true) (hb2:I5 r.tail.tail=true) (h40:¬ K2=40) (hwt:Qr.word0 r.tail.tail=true) (hty:tt=[121,101,97,114]) (hYr:∀ w,CZ g l r.tail.tail w→Ac A3 301 #[.pointer (A2 ⟨g,0,A4⟩)] w (El g l (Qr.pYears true r.tail.tail) w)) (q:Qr.Qy) (r':List D7) (hx:Qr.pYears true r.tail.tail=A2 (q,r')) :
  Ac A3 287 #[.pointer (A2 ⟨g,0,A4⟩)] w fun e w'=>El g l (A2 (q,r')) w e w':=by
 have HYR:=J hYr;clear hYr
 have hsl:=hP.suf.length_le
 have hll:=hP.len
 have hgl:=hP.lt
 obtain⟨ta,tc,kg,_,_⟩:=hP.blk
 obtain⟨A,hA⟩:∃ A,l.length - r.length=A:=⟨_,rfl⟩
 rw[hA]at kg
 have hP0:=hP.below (Aa w (.cells Ce 29))
 have KG:=J kg;clear kg
 have HPP:=J hP;clear hP
 have hk1:=Qr.begins_ne hb
 have hte:=FP hk1
 have L0:=fun w h=>look0 (K:=K) (w:=w) (g:=g) (l:=l) ht hK h
 have HB:=J hb;clear hb
 have HTE:=J hte;clear hk1
 have hA1:(A:Int)+1=((l.length - r.tail.length:Nat):Int):=by have:=hte.2;rw[Ej]at this ⊢;omega
 have hw1:=Bj ((A:Int)+1) ⟨by omega,by omega⟩
 have HA1:=J hA1;clear hA1 hte ht hK
 subst hK4;subst hN5;subst hg1
 have hk2:(Hi r.tail).k≠0:=by rw[show Hi r.tail=⟨nk,nt,true⟩ from hn];intro h0;have h0':nk=0:=h0;rw[h0']at hN;simp at hN
 have htt:=(FP hk2).1.trans HTE.out.1
 have hA2:(A:Int)+2=((l.length - r.tail.tail.length:Nat):Int):=by
  have h1:=HA1.out
  have h2:=(FP hk2).2
  have h3:=HTE.out.1.length_le
  rw[Ej (l:=r.tail)]at h2 ⊢
  omega
 have hw2:=Bj ((A:Int)+2) ⟨by omega,by omega⟩
 have HA2:=J hA2
 have HTT:Hid (r.tail.tail <:+ r∧True):=J ⟨htt,trivial⟩
 have L1:=fun w h=>look1 (K:=58) (w:=w) (g:=g) (l:=l) hn hN h
 have L2:=fun w h=>look0 (r:=r.tail.tail) (K:=K2) (w:=w) (g:=g) (l:=l) ht2 hK2 h
 clear hN hn ht2 hK2 hA2 htt hk2
 subst hg2
 have n40:(K2 == 40)=false:=beq_eq_false_iff_ne.2 h40
 have HB2:=J hb2;clear hb2
 have HW2:=J hwt;clear hwt
 subst hty
 have HX:=J hx;clear hx
 go_enter Tryz.func287,Tryz.ntmps287
 go_wp2_with (first
  |(go_at_call 301;refine (HYR.out _ hP7).mono ?_;rintro e w4 h4;rw[HX.out]at h4;clear hP4 hF4;obtain⟨qo,qf,qa,qb,qsa,qsn,qsc,qka,qkn,qkc,rfl,hq4,hP4,hF4⟩:=h4.get;have s4x:=hF4.size;skip;have kR4:=(hF4.block w.heap.size (by omega) (by first | omega | (simp;omega))).trans KR7.out;have hF4':=hF7.trans hF4;have z0:w4.cell? ⟨w.heap.size,0,A4⟩=A2 (.int .i64 0):=(Aq kR4).1 0;have z1:w4.cell? ⟨w.heap.size,1,A4⟩=A2 (.int .i64 0):=(Aq kR4).1 1;have z2:w4.cell? ⟨w.heap.size,2,A4⟩=A2 (.slice A4 0 0):=(Aq kR4).1 2;have z3:w4.cell? ⟨w.heap.size,3,A4⟩=A2 (.int .i64 0):=(Aq kR4).1 3;have z4:w4.cell? ⟨w.heap.size,4,A4⟩=A2 (.int .i64 0):=(Aq kR4).1 4;have z5:w4.cell? ⟨w.heap.size,5,A4⟩=A2 (.slice A4 0 0):=(Aq kR4).1 5;have fr9:∀ i,w4.frozen? ⟨w.heap.size,i,A4⟩=false:=(Aq kR4).2.1;obtain⟨ta4,tc4,kg4,_,_⟩:=hP4.blk;have KP4:=J kg4;clear kg4 kR4)
  |(go_at_call 252;refine (L2 _ hP6).mono ?_;rintro e w7 ⟨rfl,hb7⟩;have s7:=hb7.size;have KT7:=J (Aj KT6.out hb7);have KR7:=J (Aj KR6.out hb7);have hF7:=hF6.trans (.of_below hb7);have hP7:=hP6.below hb7;have e71:w7.cell? ⟨w2.heap.size,1,A4⟩=A2 (.string ⟨([121,101,97,114]:List UInt8).toArray⟩):=(Aq KT7.out).1 1)
  |(go_at_call 251;refine (begins_c g l _ _ hP5).mono ?_;rintro e w6 ⟨rfl,hb6⟩;have s6:=hb6.size;have KT6:=J (Aj KT5.out hb6);have KR6:=J (Aj KR5.out hb6);have hF6:=hF5.trans (.of_below hb6);have hP6:=hP5.below hb6;rw[HB2.out])
  |(go_at_call 252;refine (L2 _ hP4).mono ?_;rintro e w5 ⟨rfl,hb5⟩;have s5:=hb5.size;have KT5:=J (Aj KT4.out hb5);have KR5:=J (Aj KR4.out hb5);have hF5:=hF4.trans (.of_below hb5);have hP5:=hP4.below hb5;clear eg fg eg3 fg3 e30)
  |(go_at_call 252;refine (L1 _ hP2).mono ?_;rintro e w3 ⟨rfl,hb3⟩;have s3:=hb3.size;simp only[Bn]at s3;have kT3:(w3.alloc (.cells #[.int .u8 58,.string ⟨nt.toArray⟩,.bool true] 205)).heap[w2.heap.size]?=A2 (.cells #[.int .u8 114,.string ⟨([121,101,97,114]:List UInt8).toArray⟩,.bool tg] 205 (0,0)):=Aj (Aj KT2.out hb3) (Aa w3 _);have kg3:(w3.alloc (.cells #[.int .u8 58,.string ⟨nt.toArray⟩,.bool true] 205)).heap[g]?=A2 (.cells #[.slice ta l.length tc,.int .i64 (A:Int)] 129 (0,0)):=Aj (Aj KG2.out hb3) (Aa w3 _);have kR3:(w3.alloc (.cells #[.int .u8 58,.string ⟨nt.toArray⟩,.bool true] 205)).heap[w.heap.size]?=A2 (.cells Ce 29 (0,0)):=Aj (Aj KR2.out hb3) (Aa w3 _);have hF3:Co g w (w3.alloc (.cells #[.int .u8 58,.string ⟨nt.toArray⟩,.bool true] 205)):=(hF2.trans (.of_below hb3)).alloc _;have hP3:CZ g l r (w3.alloc (.cells #[.int .u8 58,.string ⟨nt.toArray⟩,.bool true] 205)):=(hP2.below hb3).below (Aa w3 _);have e30:(w3.alloc (.cells #[.int .u8 58,.string ⟨nt.toArray⟩,.bool true] 205)).cell? ⟨w2.heap.size,0,A4⟩=A2 (.int .u8 114):=(Aq kT3).1 0;have eg3:(w3.alloc (.cells #[.int .u8 58,.string ⟨nt.toArray⟩,.bool true] 205)).cell? ⟨g,1,A4⟩=A2 (.int .i64 (A:Int)):=(Aq kg3).1 1;have fg3:∀ i,(w3.alloc (.cells #[.int .u8 58,.string ⟨nt.toArray⟩,.bool true] 205)).frozen? ⟨g,i,A4⟩=false:=(Aq kg3).2.1;have KT3:=J kT3;have KG3:=J kg3;have KR3:=J kR3;clear kT3 kg3 kR3;have kg4:((w3.alloc (.cells #[.int .u8 58,.string ⟨nt.toArray⟩,.bool true] 205)).setCell ⟨g,1,A4⟩ (.int .i64 ((A:Int)+2))).heap[g]?=A2 (.cells #[.slice ta l.length tc,.int .i64 ((A:Int)+2)] 129 (0,0)):=Lk KG3.out _;have hF4:Co g w ((w3.alloc (.cells #[.int .u8 58,.string ⟨nt.toArray⟩,.bool true] 205)).setCell ⟨g,1,A4⟩ (.int .i64 ((A:Int)+2))):=hF3.set rfl _;have hP4:CZ g l r.tail.tail ((w3.alloc (.cells #[.int .u8 58,.string ⟨nt.toArray⟩,.bool true] 205)).setCell ⟨g,1,A4⟩ (.int .i64 ((A:Int)+2))):=LE HPP.out KG.out hF4 HTT.out.1 kg4 HA2.out;have kR4:=Da (a:=⟨g,1,A4⟩) KR3.out (show w.heap.size≠g by omega) (.int .i64 ((A:Int)+2));have kT4:=Da (a:=⟨g,1,A4⟩) KT3.out (show w2.heap.size≠g by omega) (.int .i64 ((A:Int)+2));have s4:((w3.alloc (.cells #[.int .u8 58,.string ⟨nt.toArray⟩,.bool true] 205)).setCell ⟨g,1,A4⟩ (.int .i64 ((A:Int)+2))).heap.size=w3.heap.size+1:=(by simp[CO]);have KR4:=J kR4;have KT4:=J kT4;clear kg4 kR4 kT4)
  |(go_at_call 252;refine (L0 _ hP1).mono ?_;rintro e w2 ⟨rfl,hb2⟩;have s2:=hb2.size;have kT2:(w2.alloc (.cells #[.int .u8 114,.string ⟨([121,101,97,114]:List UInt8).toArray⟩,.bool tg] 205)).heap[w2.heap.size]?=A2 (.cells #[.int .u8 114,.string ⟨([121,101,97,114]:List UInt8).toArray⟩,.bool tg] 205 (0,0)):=Ar _ _;have kg2:(w2.alloc (.cells #[.int .u8 114,.string ⟨([121,101,97,114]:List UInt8).toArray⟩,.bool tg] 205)).heap[g]?=A2 (.cells #[.slice ta l.length tc,.int .i64 (A:Int)] 129 (0,0)):=Aj (Aj KG1.out hb2) (Aa w2 _);have kR2:(w2.alloc (.cells #[.int .u8 114,.string ⟨([121,101,97,114]:List UInt8).toArray⟩,.bool tg] 205)).heap[w.heap.size]?=A2 (.cells Ce 29 (0,0)):=Aj (Aj KR1.out hb2) (Aa w2 _);have hF2:Co g w (w2.alloc (.cells #[.int .u8 114,.string ⟨([121,101,97,114]:List UInt8).toArray⟩,.bool tg] 205)):=(hF1.trans (.of_below hb2)).alloc _;have hP2:CZ g l r (w2.alloc (.cells #[.int .u8 114,.string ⟨([121,101,97,114]:List UInt8).toArray⟩,.bool tg] 205)):=(hP1.below hb2).below (Aa w2 _);have eg:(w2.alloc (.cells #[.int .u8 114,.string ⟨([121,101,97,114]:List UInt8).toArray⟩,.bool tg] 205)).cell? ⟨g,1,A4⟩=A2 (.int .i64 (A:Int)):=(Aq kg2).1 1;have fg:∀ i,(w2.alloc (.cells #[.int .u8 114,.string ⟨([121,101,97,114]:List UInt8).toArray⟩,.bool tg] 205)).frozen? ⟨g,i,A4⟩=false:=(Aq kg2).2.1;have KT2:=J kT2;have KG2:=J kg2;have KR2:=J kR2;clear kT2 kg2 kR2)
  |(go_at_call 251;refine (begins_c g l r _ hP0).mono ?_;rintro e w1 ⟨rfl,hb1⟩;rw[HB.out];have hP1:=hP0.below hb1;have s1:w.heap.size<w1.heap.size:=(by have:=hb1.size;simp at this;omega);have KG1:=J (Aj (Aj KG.out (Aa w _)) hb1);have KR1:Hid (w1.heap[w.heap.size]?=A2 (.cells Ce 29 (0,0))):=J (Aj (Ar w _) hb1);have hF1:Co g w w1:=((EN g w).alloc _).trans (.of_below hb1)))
 refine DF (v:=.agg #[.int .i64 qo,.int .i64 qf,.slice qsa qsn qsc,.int .i64 qa,.int .i64 qb,.slice qka qkn qkc]) (by simp[results,Tryz.results287,go_sem,z0,z1,z2,z3,z4,z5]) rfl ⟨⟨qo,qf,qsa,qsn,qsc,qa,qb,qka,qkn,qkc⟩,rfl,(hq4.kp (GX (Jf _ _) (by omega) _ _ _ _ _ _)).mono (by omega),Qr.PS.of' hP4 KP4.out (Tx.put6 (Below.refl _ _) (by omega) _ _ _ _ _ _) (Ek _) (Ik KP4.out (show g≠w.heap.size by omega) _ _ _ _ _ _) rfl,Hj hF4' (An _) _ _ _ _ _ _⟩
theorem term_al2 (g:Nat) (l r:List D7) (w:A9) (hP:CZ g l r w) (kk nk:UInt8) (tt nt:List UInt8) (tg ng:Bool) (K N:Int) (ht:Hi r=⟨kk,tt,tg⟩) (hK:(kk.toNat:Int)=K) (hn:Qr.lk1 r=⟨nk,nt,ng⟩) (hN:(nk.toNat:Int)=N) (hk0:kk≠0) (hK4:K=114) (hp:(N == 58)=false) (hp2:(N == 42)=false) (h1:¬ (Cn tt).length=1) (hx:Cn tt≠[]) :
  Ac A3 303 #[.pointer (A2 ⟨g,0,A4⟩)] w fun e w'=>El g l (A2 (.mk (if K=114∧(Cn tt).length=1 then 1 else 3) 0 (Cn tt) 0 0 [],r.tail)) w e w':=by
 have hk1:(Hi r).k≠0:=by rw[ht];exact hk0
 have htok:=hP.tok hk1
 rw[ht]at htok
 simp only at htok
 have hsz:(⟨tt.toArray⟩:ByteArray).size≤1000000000:=by rw[Tx.size_mk];omega
 have hte:=FP hk1
 have hsl:=hP.suf.length_le
 have hll:=hP.len
 have L0:=fun w h=>look0 (K:=K) (w:=w) (g:=g) (l:=l) ht hK h
 have L1:=fun w h=>look1 (K:=N) (w:=w) (g:=g) (l:=l) hn hN h
 have L2:=fun w h=>look0 (r:=r.tail) (K:=N) (w:=w) (g:=g) (l:=l) hn hN h
 obtain⟨ta,tc,kg,_,_⟩:=hP.blk
 obtain⟨A,hA⟩:∃ A,l.length - r.length=A:=⟨_,rfl⟩
 rw[hA]at kg
 have hA1:(A:Int)+1=((l.length - r.tail.length:Nat):Int):=by have:=hte.2;rw[Ej]at this ⊢;omega
 have hw1:=Bj ((A:Int)+1) ⟨by omega,by omega⟩
 have hw2:=Bj ((A:Int)+1+1) ⟨by omega,by omega⟩
 have hgl:=hP.lt
 have hP0:=hP.below (Aa w (.cells Ce 29))
 obtain⟨xs0,hxs0⟩:∃ xs0,Cn tt=xs0:=⟨_,rfl⟩
 have HXS:=J hxs0;clear hxs0
 have KG:=J kg;clear kg
 have HA1:=J hA1;clear hA1
 have HV:=J htok.1;clear htok
 have HTE:=J hte;clear hte
 have HPP:=J hP;clear hP
 clear ht hn hK hN hk0 hA hk1
 have hx0:xs0≠[]:=by rw[← HXS.out];exact hx
 rw[HXS.out]at h1
 rw[HXS.out]
 clear hx
 have hxn:((xs0.length:Int) == 0)=false:=beq_eq_false_iff_ne.2 (fun h=>hx0 (Aw (by omega)))
 have hxn2:¬ ((xs0.length:Int)=0):=fun h=>hx0 (Aw (by omega))
 clear hx0
 obtain⟨OP,hOP⟩:∃ OP:Int,(if K=114∧xs0.length=1 then 1 else 3)=OP:=⟨_,rfl⟩
 rw[hOP]
 have HOP:=J hOP;clear hOP
 subst hK4
 have hO:OP=3:=by rw[← HOP.out,if_neg (fun h=>h1 h.2)]
 subst hO;clear HOP
 have h1i:((xs0.length:Int) == 1)=false:=beq_eq_false_iff_ne.2 (by omega)
 clear h1
 go_enter Tryz.func303,Tryz.ntmps303
 go_wp2_with (first
  |(go_at_call 252;refine (L2 _ hPS4).mono ?_;rintro e w5 ⟨rfl,hb5⟩;have s5:=hb5.size;have kT5:(w5.alloc (.cells #[.int .u8 N,.string ⟨nt.toArray⟩,.bool ng] 205)).heap[w1.heap.size]?=A2 (.cells #[.int .u8 114,.string ⟨tt.toArray⟩,.bool tg] 205 (0,0)):=Aj (Aj KT4.out hb5) (Aa _ _);have kR5:(w5.alloc (.cells #[.int .u8 N,.string ⟨nt.toArray⟩,.bool ng] 205)).heap[w.heap.size]?=A2 (.cells Ce 29 (0,0)):=Aj (Aj KR4.out hb5) (Aa _ _);have kg5:(w5.alloc (.cells #[.int .u8 N,.string ⟨nt.toArray⟩,.bool ng] 205)).heap[g]?=A2 (.cells #[.slice ta l.length tc,.int .i64 ((A:Int)+1)] 129 (0,0)):=Aj (Aj KG4.out hb5) (Aa _ _);have hF5:Co g w (w5.alloc (.cells #[.int .u8 N,.string ⟨nt.toArray⟩,.bool ng] 205)):=(hF4.trans (.of_below hb5)).alloc _;have e50:(w5.alloc (.cells #[.int .u8 N,.string ⟨nt.toArray⟩,.bool ng] 205)).cell? ⟨w1.heap.size,0,A4⟩=A2 (.int .u8 114):=(Aq kT5).1 0;obtain⟨kc5,kf5,kl5⟩:=Aq kR5;have z0:(w5.alloc (.cells #[.int .u8 N,.string ⟨nt.toArray⟩,.bool ng] 205)).cell? ⟨w.heap.size,0,A4⟩=A2 (.int .i64 0):=kc5 0;have z1:(w5.alloc (.cells #[.int .u8 N,.string ⟨nt.toArray⟩,.bool ng] 205)).cell? ⟨w.heap.size,1,A4⟩=A2 (.int .i64 0):=kc5 1;have z2:(w5.alloc (.cells #[.int .u8 N,.string ⟨nt.toArray⟩,.bool ng] 205)).cell? ⟨w.heap.size,2,A4⟩=A2 (.slice A4 0 0):=kc5 2;have z3:(w5.alloc (.cells #[.int .u8 N,.string ⟨nt.toArray⟩,.bool ng] 205)).cell? ⟨w.heap.size,3,A4⟩=A2 (.int .i64 0):=kc5 3;have z4:(w5.alloc (.cells #[.int .u8 N,.string ⟨nt.toArray⟩,.bool ng] 205)).cell? ⟨w.heap.size,4,A4⟩=A2 (.int .i64 0):=kc5 4;have z5:(w5.alloc (.cells #[.int .u8 N,.string ⟨nt.toArray⟩,.bool ng] 205)).cell? ⟨w.heap.size,5,A4⟩=A2 (.slice A4 0 0):=kc5 5;have eg5:(w5.alloc (.cells #[.int .u8 N,.string ⟨nt.toArray⟩,.bool ng] 205)).cell? ⟨g,1,A4⟩=A2 (.int .i64 ((A:Int)+1)):=(Aq kg5).1 1;have fg5:∀ i,(w5.alloc (.cells #[.int .u8 N,.string ⟨nt.toArray⟩,.bool ng] 205)).frozen? ⟨g,i,A4⟩=false:=(Aq kg5).2.1;have KG5:=J kg5;have KR5:=J kR5;clear kT5 kg5 kR5 kc5)
  |(go_at_call 208;refine (text_Words_c ⟨tt.toArray⟩ ((w2.alloc (.cells #[.int .u8 N,.string ⟨nt.toArray⟩,.bool ng] 205)).setCell ⟨g,1,A4⟩ (.int .i64 ((A:Int)+1))) hPS3.gp.g hsz HV.out).mono ?_;rintro e w4 ⟨A',xs,rfl,hws,hSLA,hA',hb4⟩;obtain rfl:xs=xs0:=(by rw[← HXS.out];exact Qr.wordsB_bys hws);clear hws;have s4:=hb4.size;have hPS4:=hPS3.below hb4;have KG4:=J (Aj KG3.out hb4);have KT4:=J (Aj KT3.out hb4);have KR4:=J (Aj KR3.out hb4);have hF4:=hF3.trans (.of_below hb4);clear eg fg e30 e31)
  |(go_at_call 252;refine (L1 _ (hP1.below (Aa _ _))).mono ?_;rintro e w2 ⟨rfl,hb2⟩;have s1:w.heap.size<w1.heap.size:=(by have:=hb1.size;simp at this;omega);have s2:w1.heap.size<w2.heap.size:=(by have:=hb2.size;simp at this;omega);have kT2:(w2.alloc (.cells #[.int .u8 N,.string ⟨nt.toArray⟩,.bool ng] 205)).heap[w1.heap.size]?=A2 (.cells #[.int .u8 114,.string ⟨tt.toArray⟩,.bool tg] 205 (0,0)):=Aj (Aj (Ar w1 (.cells #[.int .u8 114,.string ⟨tt.toArray⟩,.bool tg] 205)) hb2) (Aa w2 _);have kg2:(w2.alloc (.cells #[.int .u8 N,.string ⟨nt.toArray⟩,.bool ng] 205)).heap[g]?=A2 (.cells #[.slice ta l.length tc,.int .i64 (A:Int)] 129 (0,0)):=Aj (Aj (Aj (Aj (Aj KG.out (Aa _ _)) hb1) (Aa _ _)) hb2) (Aa w2 _);have kR2:(w2.alloc (.cells #[.int .u8 N,.string ⟨nt.toArray⟩,.bool ng] 205)).heap[w.heap.size]?=A2 (.cells Ce 29 (0,0)):=Aj (Aj (Aj (Aj (Ar w _) hb1) (Aa _ _)) hb2) (Aa w2 _);have hF2:Co g w (w2.alloc (.cells #[.int .u8 N,.string ⟨nt.toArray⟩,.bool ng] 205)):=(((((EN g w).alloc _).trans (.of_below hb1)).alloc _).trans (.of_below hb2)).alloc _;have e30:(w2.alloc (.cells #[.int .u8 N,.string ⟨nt.toArray⟩,.bool ng] 205)).cell? ⟨w1.heap.size,0,A4⟩=A2 (.int .u8 114):=(Aq kT2).1 0;have e31:∀ v,((w2.alloc (.cells #[.int .u8 N,.string ⟨nt.toArray⟩,.bool ng] 205)).setCell ⟨g,1,A4⟩ v).cell? ⟨w1.heap.size,1,A4⟩=A2 (.string ⟨tt.toArray⟩):=(fun v=>(Aq (Da kT2 (show w1.heap.size≠g by omega) v)).1 1);have eg:(w2.alloc (.cells #[.int .u8 N,.string ⟨nt.toArray⟩,.bool ng] 205)).cell? ⟨g,1,A4⟩=A2 (.int .i64 (A:Int)):=(Aq kg2).1 1;have fg:∀ i,(w2.alloc (.cells #[.int .u8 N,.string ⟨nt.toArray⟩,.bool ng] 205)).frozen? ⟨g,i,A4⟩=false:=(Aq kg2).2.1;have kg3:((w2.alloc (.cells #[.int .u8 N,.string ⟨nt.toArray⟩,.bool ng] 205)).setCell ⟨g,1,A4⟩ (.int .i64 ((A:Int)+1))).heap[g]?=A2 (.cells #[.slice ta l.length tc,.int .i64 ((A:Int)+1)] 129 (0,0)):=Lk kg2 _;have hF3:Co g w ((w2.alloc (.cells #[.int .u8 N,.string ⟨nt.toArray⟩,.bool ng] 205)).setCell ⟨g,1,A4⟩ (.int .i64 ((A:Int)+1))):=hF2.set rfl _;have hPS3:CZ g l r.tail ((w2.alloc (.cells #[.int .u8 N,.string ⟨nt.toArray⟩,.bool ng] 205)).setCell ⟨g,1,A4⟩ (.int .i64 ((A:Int)+1))):=LE HPP.out KG.out hF3 HTE.out.1 kg3 HA1.out;have kT3:=Da (a:=⟨g,1,A4⟩) kT2 (show w1.heap.size≠g by omega) (.int .i64 ((A:Int)+1));have kR3:=Da (a:=⟨g,1,A4⟩) kR2 (show w.heap.size≠g by omega) (.int .i64 ((A:Int)+1));have KG3:=J kg3;have KT3:=J kT3;have KR3:=J kR3;clear kg2 kT2 kR2 kg3 kT3 kR3)
  |(go_at_call 252;refine (L0 _ hP0).mono ?_;rintro e w1 ⟨rfl,hb1⟩;have hP1:=hP0.below hb1))
 refine DF (v:=.agg #[.int .i64 3,.int .i64 0,.slice (A2 ⟨A',0,A4⟩) xs.length xs.length,.int .i64 0,.int .i64 0,.slice A4 0 0]) (by simp[results,Tryz.results303,go_sem,z0,z1,z2,z3,z4,z5]) rfl ⟨⟨3,0,A2 ⟨A',0,A4⟩,xs.length,xs.length,0,0,A4,0,0⟩,rfl,Qr.QC.of_kids (ks:=[]) (Qr.Kp.sl hSLA (by have:=hA';simp[CO]at this;omega) (GX (M:=w.heap.size+1) ((Fg hb5).trans (Fg (Aa w5 _))) (by omega) _ _ _ _ _ _)) (fun _ ad l2 c2 e9=>by injection e9 with e9;injection e9 with e9;rw[← e9];have:=hA';simp[CO]at this;simp only;omega) (Qr.KA.nil _ _),LE HPP.out KG.out (Hj hF5 (An _) _ _ _ _ _ _) HTE.out.1 (Ik KG5.out (show g≠w.heap.size by omega) _ _ _ _ _ _) HA1.out,(Hj hF5 (An _) _ _ _ _ _ _)⟩
namespace Qr
def Al (l:List Tok):Prop:=l=[⟨114,[100,111,103,115],false⟩]∨l=[⟨114,[99,97,116,115],false⟩]∨l=[⟨114,[121,101,97,114],false⟩,⟨58,[],true⟩,⟨114,[49,57,57,48,45,50,48,48,53],true⟩]∨l=[⟨114,[100,111,103,115],false⟩,⟨114,[78,79,84],false⟩,⟨114,[99,97,116,115],false⟩]∨l=[⟨40,[],false⟩]
theorem suf1 {a:Tok}{r:List Tok} (h:r <:+ [a]):r=[a]∨r=[]:=by
 rcases NZ.1 h with h | h
 ·exact .inl h
 ·exact .inr (List.suffix_nil.1 h)
theorem suf3 {a b c:Tok}{r:List Tok} (h:r <:+ [a,b,c]):r=[a,b,c]∨r=[b,c]∨r=[c]∨r=[]:=by
 rcases NZ.1 h with h | h
 ·exact .inl h
 ·rcases NZ.1 h with h | h
  ·exact .inr (.inl h)
  ·exact .inr (.inr (suf1 h))
theorem pPrim_flat (n:Nat) {r:List Tok} (h:(lk r).k≠40):pPrim true (n+1) r=pFlat true r:=by rw[pPrim,if_neg h]
theorem pPrim_bad (n:Nat) {r:List Tok} (hb:begins r=false):pPrim true (n+1) r=A4:=by
 unfold begins at hb
 rw[Bool.or_eq_false_iff,beq_eq_false_iff_ne]at hb
 rw[pPrim_flat n hb.1]
 unfold pFlat
 rw[if_pos hb.2]
end Qr
theorem prim_no (g n:Nat) (l r:List D7) (w:A9) (hP:CZ g l r w) (hb:I5 r=false) :
  Ac A3 287 #[.pointer (A2 ⟨g,0,A4⟩)] w (El g l (IZ true (n+1) r) w):=by
 rw[Qr.pPrim_bad n hb]
 exact prim_bad g l r w hP hb
theorem prim_word (g n:Nat) (l r:List D7) (w:A9) (hP:CZ g l r w) (t:List UInt8) (tg:Bool) (nk:UInt8) (nt:List UInt8) (ng:Bool) (ht:Hi r=⟨114,t,tg⟩) (hn:Qr.lk1 r=⟨nk,nt,ng⟩) (h58:((nk.toNat:Int) == 58)=false) (h42:((nk.toNat:Int) == 42)=false) (hb:I5 r=true) (hw:Qr.word0 r=true) (hx:Cn t≠[])
  (hf:Qr.pFlat true r=Qr.pTerm true 0 r) (hq:Qr.pTerm true 0 r=A2 (.mk (if (114:Int)=114∧(Cn t).length=1 then 1 else 3) 0 (Cn t) 0 0 [],r.tail)) :
  Ac A3 287 #[.pointer (A2 ⟨g,0,A4⟩)] w (El g l (IZ true (n+1) r) w):=by
 rw[Qr.pPrim_flat n (by rw[ht];exact (by decide:(114:UInt8)≠40)),hf,hq]
 refine prim_dir_al g l r w hP 114 t tg 114 ht rfl hb nk nt ng _ hn rfl hw (by decide) rfl h58 (fun w h=>?_) _ _ hq
 rw[hq]
 by_cases h1:(Cn t).length=1
 ·exact term_al g l r w h 114 nk t nt tg ng 114 _ ht rfl hn rfl (by decide) rfl h58 h42 h1 hx
 ·exact term_al2 g l r w h 114 nk t nt tg ng 114 _ ht rfl hn rfl (by decide) rfl h58 h42 h1 hx
theorem Qr.wd {t:List UInt8}{r:List D7}{tg:Bool} (ht:Hi r=⟨114,t,tg⟩) (hw:Qr.word0 r=true) (h58:Qr.glue 58 r=false) (h42:Qr.glue 42 r=false) (hx:Bh t≠[]):Qr.pFlat true r=Qr.pTerm true 0 r∧Qr.pTerm true 0 r=A2 (.mk (if (114:Int)=114∧(Cn t).length=1 then 1 else 3) 0 (Cn t) 0 0 [],r.tail):=by
 constructor
 ·unfold Qr.pFlat
  rw[if_neg (by simp[hw]),if_neg (by simp[h58])]
 ·unfold Qr.pTerm
  rw[if_neg (by simp[hw]),if_neg (by simp[h58]),if_neg (by rw[ht];exact hx),if_neg (by simp[h42]),ht]
  by_cases h1:(Bh t).length=1
  ·rw[if_pos ⟨rfl,h1⟩,if_pos ⟨rfl,by rw[Qr.words_n];exact h1⟩]
  ·rw[if_neg (fun h=>h1 h.2),if_neg (fun h=>h1 (by rw[← Qr.words_n];exact h.2))]
theorem prim_wd (g n:Nat) (l r:List D7) (w:A9) (hP:CZ g l r w) (t:List UInt8) (tg:Bool) (nk:UInt8) (nt:List UInt8) (ng:Bool) (ht:Hi r=⟨114,t,tg⟩) (hn:Qr.lk1 r=⟨nk,nt,ng⟩) (h58:((nk.toNat:Int) == 58)=false) (h42:((nk.toNat:Int) == 42)=false) (hb:I5 r=true) (hw:Qr.word0 r=true) (g58:Qr.glue 58 r=false) (g42:Qr.glue 42 r=false) (hx:Bh t≠[]) :
  Ac A3 287 #[.pointer (A2 ⟨g,0,A4⟩)] w (El g l (IZ true (n+1) r) w):=by
 obtain⟨e1,e2⟩:=Qr.wd ht hw g58 g42 hx
 exact prim_word g n l r w hP t tg nk nt ng ht hn h58 h42 hb hw (fun h=>hx (Qr.words_nil.1 h)) e1 e2
theorem prim_yr (g n:Nat) (w:A9) (hP:CZ g [⟨114,[121,101,97,114],false⟩,⟨58,[],true⟩,⟨114,[49,57,57,48,45,50,48,48,53],true⟩] [⟨114,[121,101,97,114],false⟩,⟨58,[],true⟩,⟨114,[49,57,57,48,45,50,48,48,53],true⟩] w) :
  Ac A3 287 #[.pointer (A2 ⟨g,0,A4⟩)] w (El g [⟨114,[121,101,97,114],false⟩,⟨58,[],true⟩,⟨114,[49,57,57,48,45,50,48,48,53],true⟩] (IZ true (n+1) [⟨114,[121,101,97,114],false⟩,⟨58,[],true⟩,⟨114,[49,57,57,48,45,50,48,48,53],true⟩]) w):=by
 have hy:Qr.pYears true [⟨114,[49,57,57,48,45,50,48,48,53],true⟩]=A2 (.mk 4 0 [] 1990 2005 [],[]):=by kernel_rfl
 rw[Qr.pPrim_flat n (by decide),show Qr.pFlat true [⟨114,[121,101,97,114],false⟩,⟨58,[],true⟩,⟨114,[49,57,57,48,45,50,48,48,53],true⟩]=A2 (.mk 4 0 [] 1990 2005 [],[]) by kernel_rfl]
 exact prim_year_al g _ _ w hP 114 [121,101,97,114] false 114 rfl rfl rfl 58 [] true 58 rfl rfl rfl rfl rfl 114 [49,57,57,48,45,50,48,48,53] true 114 rfl rfl rfl rfl (by decide) rfl rfl (fun w h=>by
  rw[show Qr.pYears true (List.tail (List.tail [⟨114,[121,101,97,114],false⟩,⟨58,[],true⟩,⟨114,[49,57,57,48,45,50,48,48,53],true⟩]))=A2 (.mk 4 0 [] 1990 2005 [],[]) from hy]
  exact years_al g _ _ w h 114 0 [49,57,57,48,45,50,48,48,53] [] true false 114 0 rfl rfl rfl rfl (by decide) rfl [49,57,57,48] [50,48,48,53] (by kernel_rfl) (by decide) (by decide) rfl 1990 (by kernel_rfl) 2005 (by kernel_rfl)) _ _ hy
theorem prim_al (g n:Nat) (l:List D7) (hA:Qr.Al l) (hOr:∀ (r:List D7) (w:A9),8*r.length+7≤n→CZ g l r w→Ac A3 117 #[.pointer (A2 ⟨g,0,A4⟩)] w (El g l (Hk true n r) w))
  (r:List D7) (w:A9) (hn:8*r.length+4≤n+1) (hP:CZ g l r w) :
  Ac A3 287 #[.pointer (A2 ⟨g,0,A4⟩)] w (El g l (IZ true (n+1) r) w):=by
 have hs:=hP.suf
 rcases hA with rfl | rfl | rfl | rfl | rfl
 ·rcases Qr.suf1 hs with rfl | rfl
  ·exact prim_wd g n _ _ w hP [100,111,103,115] false 0 [] false rfl rfl rfl rfl rfl rfl rfl rfl (fun h=>absurd (congrArg Cd h) (by decide))
  ·exact prim_no g n _ _ w hP rfl
 ·rcases Qr.suf1 hs with rfl | rfl
  ·exact prim_wd g n _ _ w hP [99,97,116,115] false 0 [] false rfl rfl rfl rfl rfl rfl rfl rfl (fun h=>absurd (congrArg Cd h) (by decide))
  ·exact prim_no g n _ _ w hP rfl
 ·rcases Qr.suf3 hs with rfl | rfl | rfl | rfl
  ·exact prim_yr g n w hP
  ·exact prim_no g n _ _ w hP rfl
  ·exact prim_wd g n _ _ w hP [49,57,57,48,45,50,48,48,53] true 0 [] false rfl rfl rfl rfl rfl rfl rfl rfl (fun h=>absurd (congrArg Cd h) (by decide))
  ·exact prim_no g n _ _ w hP rfl
 ·rcases Qr.suf3 hs with rfl | rfl | rfl | rfl
  ·exact prim_wd g n _ _ w hP [100,111,103,115] false 114 [78,79,84] false rfl rfl rfl rfl rfl rfl rfl rfl (fun h=>absurd (congrArg Cd h) (by decide))
  ·exact prim_no g n _ _ w hP rfl
  ·exact prim_wd g n _ _ w hP [99,97,116,115] false 0 [] false rfl rfl rfl rfl rfl rfl rfl rfl (fun h=>absurd (congrArg Cd h) (by decide))
  ·exact prim_no g n _ _ w hP rfl
 ·rcases Qr.suf1 hs with rfl | rfl
  ·have hor:=fun w h=>hOr [] w (by simp at hn ⊢;omega) h
   have e0:IZ true (n+1) [⟨40,[],false⟩]=match Hk true n [] with
     | none=>A4
     | some (q,r')=>if (Hi r').k=41 then A2 (q,r'.tail) else A4:=by
    rw[IZ,if_pos (by decide)]
    rfl
   have hno:Hk true n []=A4:=by
    match n with
    | 0=>rfl
    | 1=>rfl
    | 2=>rfl
    | 3=>rfl
    | n+4=>rfl
   rw[hno]at e0 hor
   rw[e0]
   exact prim_par_none g _ _ w hP 40 [] false 40 rfl rfl rfl rfl A4 hor rfl
  ·exact prim_no g n _ _ w hP rfl
theorem readers_al (g:Nat) (l:List D7) (hA:Qr.Al l) (hl:l.length≤400000):∀ n:Nat,
  (∀ (m:Nat) (r:List D7) (w:A9),m≤n→8*r.length+7≤m→CZ g l r w→Ac A3 117 #[.pointer (A2 ⟨g,0,A4⟩)] w (El g l (Hk true m r) w)) ∧
  (∀ (m:Nat) (r:List D7) (w:A9),m≤n→8*r.length+6≤m→CZ g l r w→Ac A3 195 #[.pointer (A2 ⟨g,0,A4⟩)] w (El g l (Qr.pAnd true m r) w)) ∧
  (∀ (m:Nat) (r:List D7) (w:A9),m≤n→8*r.length+5≤m→CZ g l r w→Ac A3 250 #[.pointer (A2 ⟨g,0,A4⟩)] w (El g l (Qr.pNot true m r) w)) ∧
  (∀ (m:Nat) (r:List D7) (w:A9),m≤n→8*r.length+4≤m→CZ g l r w→Ac A3 287 #[.pointer (A2 ⟨g,0,A4⟩)] w (El g l (IZ true m r) w))
 | 0=>⟨fun m r w h1 h2 _=>by omega,fun m r w h1 h2 _=>by omega,fun m r w h1 h2 _=>by omega,fun m r w h1 h2 _=>by omega⟩
 | n+1=>by
  obtain⟨h1,h2,h3,h4⟩:=readers_al g l hA hl n
  refine⟨fun m r w hm hn hP=>?_,fun m r w hm hn hP=>?_,fun m r w hm hn hP=>?_,fun m r w hm hn hP=>?_⟩
  ·by_cases hle:m≤n
   ·exact h1 m r w hle hn hP
   ·obtain rfl:m=n+1:=by omega
    exact or_c g n l hl h2 r w hn hP
  ·by_cases hle:m≤n
   ·exact h2 m r w hle hn hP
   ·obtain rfl:m=n+1:=by omega
    exact and_c g n l hl h3 r w hn hP
  ·by_cases hle:m≤n
   ·exact h3 m r w hle hn hP
   ·obtain rfl:m=n+1:=by omega
    exact not_c g n l (fun r w h hP=>h4 n r w (An _) h hP) r w hn hP
  ·by_cases hle:m≤n
   ·exact h4 m r w hle hn hP
   ·obtain rfl:m=n+1:=by omega
    exact prim_al g n l hA (fun r w h hP=>h1 n r w (An _) h hP) r w hn hP
theorem parse_al (s:ByteArray) (hA:Qr.Al (Bm s.data.toList)):∀ (w:A9),G w→Ac A3 54 #[.string s] w fun e w'=>∃ t,e=.returned (.tuple #[.agg (Qr.encQ t).toArray,.int .i64 (Qr.parse s.data.toList).2])∧Qr.QC w.heap.size w' (Qr.parse s.data.toList).1 (Qr.encQ t)∧Below w.heap.size w w':=fun w hG =>
 Parse_by s w hG fun g w h=>(readers_al g (Bm s.data.toList) hA (by rcases hA with e | e | e | e | e <;> rw[e] <;> decide) (8*(Bm s.data.toList).length+8)).1 (8*(Bm s.data.toList).length+8) (Bm s.data.toList) w (An _) (by omega) h
theorem al1:Qr.Al (Bm (⟨[100,111,103,115].toArray⟩:ByteArray).data.toList):=.inl (by kernel_rfl)
theorem al2:Qr.Al (Bm (⟨[99,97,116,115].toArray⟩:ByteArray).data.toList):=.inr (.inl (by kernel_rfl))
theorem al3:Qr.Al (Bm (⟨[121,101,97,114,58,49,57,57,48,45,50,48,48,53].toArray⟩:ByteArray).data.toList):=.inr (.inr (.inl (by kernel_rfl)))
theorem al4:Qr.Al (Bm (⟨[100,111,103,115,32,78,79,84,32,99,97,116,115].toArray⟩:ByteArray).data.toList):=.inr (.inr (.inr (.inl (by kernel_rfl))))
theorem al5:Qr.Al (Bm (⟨[40].toArray⟩:ByteArray).data.toList):=.inr (.inr (.inr (.inr (by kernel_rfl))))
end
end Go.Proofs.YtlakomilichhnaaGreatDoor
